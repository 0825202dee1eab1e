/- A text read again: plain laws; Itoa; conf.Text: forms. No conditions. -/
import Derived.Test.YtaonjbojhikndaaDoorJc
import Derived.Lib.ItoaNum
import Derived.Shelf.Strconv.Itoa3
import Derived.Lib.AppendIntMem
import Derived.Test.YtaonjbojhikndaaDoorJe
namespace Go.Proofs.YtaonjbojhikndaaDoor
open Go Go.W
set_option maxRecDepth 100000
/-! ### Numerals -/
def numT (n : Int) : B := Lib.decDigits n.toNat
theorem dec_small {u : Nat} (h : u < 10) : Lib.decDigits u = [UInt8.ofNat (48 + u)] := Lib.decDigits_one h
theorem dec_big {u : Nat} (h : ¬ u < 10) : Lib.decDigits u = Lib.decDigits (u / 10) ++ [UInt8.ofNat (48 + u % 10)] := by
  rw [Lib.decDigits, dif_neg h]
theorem dig_nat {k : Nat} (h : k < 10) : (UInt8.ofNat (48 + k)).toNat = 48 + k := UInt8.toNat_ofNat_of_lt' (by show 48 + k < 256; omega)
theorem dig_is {k : Nat} (h : k < 10) : isD (UInt8.ofNat (48 + k)) = true := by
  unfold isD digI
  rw [dig_nat h, dT (by omega), dT (by omega)]; rfl
theorem val_snoc (s : B) (b : UInt8) : valM (s ++ [b]) = valM s * 10 + ((b.toNat : Int) - 48) := by
  unfold valM
  rw [List.foldl_append]; rfl
structure IsNum (u : Nat) (s : B) : Prop where
  val : valM s = (u : Int)
  all : allD s = true
  pos : 1 ≤ s.length
  lead : u ≠ 0 → (s.getD 0 0 == 48) = false
theorem dec_is (u : Nat) : IsNum u (Lib.decDigits u) := by
  induction u using Nat.strongRecOn with
  | _ u ih =>
    by_cases h : u < 10
    · rw [dec_small h]
      refine ⟨?_, ?_, Nat.le_refl _, fun h0 => ?_⟩
      · show (0 : Int) * 10 + (((UInt8.ofNat (48 + u)).toNat : Int) - 48) = _
        rw [dig_nat h]; omega
      · show (isD (UInt8.ofNat (48 + u)) && true) = true
        rw [dig_is h]; rfl
      · refine beq_eq_false_iff_ne.2 fun e => ?_
        have := congrArg UInt8.toNat e
        rw [show ([UInt8.ofNat (48 + u)] : B).getD 0 0 = UInt8.ofNat (48 + u) from rfl, dig_nat h] at this
        have h48 : (48 : UInt8).toNat = 48 := rfl
        omega
    · have i := ih (u / 10) (by omega)
      rw [dec_big h]
      have hm : u % 10 < 10 := Nat.mod_lt _ (by decide)
      refine ⟨?_, ?_, by simp, fun _ => ?_⟩
      · rw [val_snoc, i.val, dig_nat hm]; omega
      · have ha : (Lib.decDigits (u / 10)).all isD = true := i.all
        show (Lib.decDigits (u / 10) ++ [UInt8.ofNat (48 + u % 10)]).all isD = true
        rw [List.all_append, ha]
        show (true && (isD (UInt8.ofNat (48 + u % 10)) && true)) = true
        rw [dig_is hm]; rfl
      · have hp := i.pos
        have : (Lib.decDigits (u / 10) ++ [UInt8.ofNat (48 + u % 10)]).getD 0 0 = (Lib.decDigits (u / 10)).getD 0 0 := by
          cases he : Lib.decDigits (u / 10) with
          | nil => rw [he] at hp; simp at hp
          | cons a l => rfl
        rw [this]
        exact i.lead (by omega)
theorem dec_len_le : ∀ (k u : Nat), u < 10 ^ (k + 1) → (Lib.decDigits u).length ≤ k + 1
  | 0, u, h => by rw [dec_small (by simpa using h)]; exact Nat.le_refl _
  | k + 1, u, h => by
    by_cases h10 : u < 10
    · rw [dec_small h10]; simp
    · rw [dec_big h10]
      have h2 : 10 ^ (k + 1 + 1) = 10 ^ (k + 1) * 10 := Nat.pow_succ ..
      have := dec_len_le k (u / 10) (by omega)
      simp; omega
/-- A number that a line may bear. -/
def OkN (n : Int) : Prop := 0 ≤ n ∧ n < 10000000
theorem num_dec {n : Int} (h : OkN n) : numM (numT n) = (n, true) := by
  have hi := dec_is n.toNat
  have hl : (numT n).length ≤ 7 := dec_len_le 6 n.toNat (by have := h.2; show n.toNat < 10000000; omega)
  have h1 : okNum (numT n) = true := by
    simp only [okNum, Bool.and_eq_true]
    exact ⟨⟨Nat.ble_eq_true_of_le hi.pos, Nat.ble_eq_true_of_le hl⟩, hi.all⟩
  have h2 : zeroLed (numT n) = false := by
    unfold zeroLed
    by_cases h0 : n.toNat = 0
    · have : (numT n).length = 1 := by unfold numT; rw [h0, dec_small (by decide)]; rfl
      rw [this]; rfl
    · have := hi.lead h0
      show (decide (1 < (numT n).length) && ((numT n).getD 0 0 == 48)) = false
      rw [show ((numT n).getD 0 0 == 48) = false from this, Bool.and_false]
  unfold numM
  rw [h1, h2]
  show (valM (numT n), true) = _
  rw [show valM (numT n) = ((n.toNat : Nat) : Int) from hi.val, Int.toNat_of_nonneg h.1]
theorem dec_no (u : Nat) (c : UInt8) (hc : isD c = false) : c ∉ Lib.decDigits u := fun hm => by
  have := List.all_eq_true.1 (dec_is u).all c hm
  rw [hc] at this; cases this
/-! ### Lines and words -/
theorem split_app {c : UInt8} : ∀ {a : B} (b : B), c ∉ a → splitM c (a ++ c :: b) = a :: splitM c b
  | [], b, _ => by
    show (bif c == c then [] :: splitM c b else _) = _
    rw [beq_self_eq_true]; rfl
  | x :: a, b, h => by
    have hx : (x == c) = false := beq_eq_false_iff_ne.2 fun e => h (e ▸ List.mem_cons_self)
    show (bif x == c then _ else (match splitM c (a ++ c :: b) with | [] => [[x]] | p :: ps => (x :: p) :: ps)) = _
    rw [hx, split_app b (fun hm => h (List.mem_cons_of_mem _ hm))]; rfl
theorem split_no {c : UInt8} : ∀ {a : B}, c ∉ a → splitM c a = [a]
  | [], _ => rfl
  | x :: a, h => by
    have hx : (x == c) = false := beq_eq_false_iff_ne.2 fun e => h (e ▸ List.mem_cons_self)
    show (bif x == c then _ else (match splitM c a with | [] => [[x]] | p :: ps => (x :: p) :: ps)) = _
    rw [hx, split_no (fun hm => h (List.mem_cons_of_mem _ hm))]; rfl
/-- Lines, each with a byte behind it. -/
def ends (c : UInt8) : List B → B
  | [] => []
  | l :: ls => l ++ c :: ends c ls
theorem split_ends {c : UInt8} : ∀ {ls : List B}, (∀ l ∈ ls, c ∉ l) → splitM c (ends c ls) = ls ++ [[]]
  | [], _ => rfl
  | l :: ls, h => by
    show splitM c (l ++ c :: ends c ls) = _
    rw [split_app _ (h l List.mem_cons_self), split_ends (fun l hl => h l (List.mem_cons_of_mem _ hl))]; rfl
/-- Words, a byte ahead of each but the first. -/
def heads (c : UInt8) : List B → B
  | [] => []
  | w :: ws => c :: (w ++ heads c ws)
theorem split_heads {c : UInt8} : ∀ {ws : List B} {w : B}, c ∉ w → (∀ x ∈ ws, c ∉ x) → splitM c (w ++ heads c ws) = w :: ws
  | [], w, h, _ => by
    show splitM c (w ++ []) = _
    rw [List.append_nil, split_no h]
  | x :: ws, w, h, hs => by
    show splitM c (w ++ c :: (x ++ heads c ws)) = _
    rw [split_app _ h, split_heads (hs x List.mem_cons_self) (fun y hy => hs y (List.mem_cons_of_mem _ hy))]
structure Wd (w : B) : Prop where
  ne : w ≠ []
  sp : (32 : UInt8) ∉ w
  nl : (10 : UInt8) ∉ w
theorem words_heads {w : B} {ws : List B} (h : Wd w) (hs : ∀ x ∈ ws, Wd x) : wordsM (w ++ heads 32 ws) = w :: ws := by
  unfold wordsM
  rw [split_heads h.sp (fun x hx => (hs x hx).sp)]
  unfold keep
  refine List.filter_eq_self.2 fun x hx => ?_
  have : x ≠ [] := by
    rcases List.mem_cons.1 hx with rfl | hx
    · exact h.ne
    · exact (hs x hx).ne
  simpa using this
theorem heads_no {c d : UInt8} (hcd : c ≠ d) : ∀ {ws : List B}, (∀ x ∈ ws, d ∉ x) → d ∉ heads c ws
  | [], _ => by simp [heads]
  | x :: ws, h => by
    unfold heads
    intro hm
    rcases List.mem_cons.1 hm with hm | hm
    · exact hcd hm.symm
    · rcases List.mem_append.1 hm with hm | hm
      · exact h x List.mem_cons_self hm
      · exact heads_no hcd (fun y hy => h y (List.mem_cons_of_mem _ hy)) hm
/-! ### A configuration's text -/
def capT (c : Cp) : B := numT c.least ++ 47 :: numT c.most
def qWords (q : Qu) : List B := q.path :: numT q.user :: q.caps.map capT
def confL (la : List B) : B := wLabels ++ heads 32 (la.drop 1)
def confQ (q : Qu) : B := wQueue ++ heads 32 (qWords q)
def textC (la : List B) (qs : List Qu) : B := ends 10 (confL la :: qs.map confQ)
structure GoodQ (n : Nat) (q : Qu) : Prop where
  path : Wd q.path
  user : OkN q.user
  len : q.caps.length = n
  caps : ∀ c ∈ q.caps, OkN c.least ∧ OkN c.most
structure GoodC (la : List B) (qs : List Qu) : Prop where
  hd : la = [] :: la.drop 1
  ls : ∀ l ∈ la.drop 1, Wd l
  l3 : la.length ≤ 3
  q : ∀ q ∈ qs, GoodQ la.length q
  q16 : qs.length ≤ 16
  st : Strict qs
theorem numT_wd (n : Int) : Wd (numT n) :=
  ⟨fun e => by have := (dec_is n.toNat).pos; rw [show Lib.decDigits n.toNat = [] from e] at this; simp at this, dec_no _ _ (by decide), dec_no _ _ (by decide)⟩
theorem capT_wd (c : Cp) : Wd (capT c) := by
  have h1 := numT_wd c.least
  have h2 := numT_wd c.most
  refine ⟨fun e => by unfold capT at e; simp at e, fun hm => ?_, fun hm => ?_⟩
  · rcases List.mem_append.1 (show (32 : UInt8) ∈ numT c.least ++ 47 :: numT c.most from hm) with hm | hm
    · exact h1.sp hm
    · rcases List.mem_cons.1 hm with hm | hm
      · cases hm
      · exact h2.sp hm
  · rcases List.mem_append.1 (show (10 : UInt8) ∈ numT c.least ++ 47 :: numT c.most from hm) with hm | hm
    · exact h1.nl hm
    · rcases List.mem_cons.1 hm with hm | hm
      · cases hm
      · exact h2.nl hm
theorem share_cap {c : Cp} (h1 : OkN c.least) (h2 : OkN c.most) : shareM (capT c) = (c, true) := by
  have hno : (47 : UInt8) ∉ numT c.least := dec_no _ _ (by decide)
  have hi : Lib.indexByte (capT c) 47 = ((numT c.least).length : Nat) := by
    refine idx_at (by unfold capT; simp) ?_ (fun j hj => ?_)
    · unfold capT; simp
    · unfold capT
      have : (numT c.least ++ 47 :: numT c.most).getD j 0 = (numT c.least).getD j 0 := by simp [List.getD, List.getElem?_append_left hj]
      rw [this]
      intro e
      refine hno ?_
      rw [← e]
      simp [List.getD, hj]
  have hc := cut_some hi
  have e1 : (capT c).take (numT c.least).length = numT c.least := by unfold capT; simp
  have e2 : (capT c).drop ((numT c.least).length + 1) = numT c.most := by unfold capT; simp
  rw [e1, e2] at hc
  unfold shareM
  rw [hc, num_dec h1, num_dec h2]; rfl
theorem qWords_wd {n : Nat} {q : Qu} (h : GoodQ n q) : ∀ x ∈ qWords q, Wd x := by
  intro x hx
  rcases List.mem_cons.1 hx with rfl | hx
  · exact h.path
  · rcases List.mem_cons.1 hx with rfl | hx
    · exact numT_wd _
    · obtain ⟨c, _, rfl⟩ := List.mem_map.1 hx
      exact capT_wd c
theorem queue_wd : Wd wQueue := ⟨by decide, by decide, by decide⟩
theorem labels_wd : Wd wLabels := ⟨by decide, by decide, by decide⟩
theorem words_q {n : Nat} {q : Qu} (h : GoodQ n q) : wordsM (confQ q) = wQueue :: qWords q := words_heads queue_wd (qWords_wd h)
theorem caps_map {cs : List Cp} (h : ∀ c ∈ cs, OkN c.least ∧ OkN c.most) : (cs.map capT).map (fun x => (shareM x).1) = cs ∧ ((cs.map capT).all fun x => (shareM x).2) = true := by
  induction cs with
  | nil => exact ⟨rfl, rfl⟩
  | cons c cs ih =>
    obtain ⟨i1, i2⟩ := ih (fun d hd => h d (List.mem_cons_of_mem _ hd))
    have hc := h c List.mem_cons_self
    have := share_cap hc.1 hc.2
    exact ⟨by rw [List.map_cons, List.map_cons, i1, this], by rw [List.map_cons, List.all_cons, i2, this]; rfl⟩
theorem line_q {r : Rd} {q : Qu} (h : GoodQ r.labels.length q) (hs : r.seen = true) (h16 : r.qs.length < 16) : lineM r (wQueue :: qWords q) = ({ r with qs := r.qs ++ [q] }, 0) := by
  have hl : (wQueue :: qWords q).length = 3 + r.labels.length := by
    show (wQueue :: q.path :: numT q.user :: q.caps.map capT).length = _
    simp [h.len]; omega
  obtain ⟨m1, m2⟩ := caps_map h.caps
  have hk : (wQueue :: qWords q).length - 3 = q.caps.length := by rw [hl, h.len]; omega
  have hdr : ((wQueue :: qWords q).drop 3).take ((wQueue :: qWords q).length - 3) = q.caps.map capT := by
    rw [hk]
    show (q.caps.map capT).take q.caps.length = _
    exact List.take_of_length_le (by simp)
  have ho : oksM (wQueue :: qWords q) ((wQueue :: qWords q).length - 3) = true := by
    unfold oksM
    rw [hdr, m2]
    show ((numM (numT q.user)).2 && true) = true
    rw [num_dec h.user]; rfl
  have hn : newQ (wQueue :: qWords q) = q := by
    unfold newQ capsM
    rw [hdr, m1]
    show (⟨q.path, q.caps, (numM (numT q.user)).1⟩ : Qu) = q
    rw [num_dec h.user]
  unfold lineM
  rw [show (!r.seen) = false by rw [hs]; rfl, dF (by simp : ¬ (wQueue :: qWords q).length = 0), dF (by omega : ¬ (r.qs.length : Int) ≥ 16), dT hl, ho, hn]
  rfl
theorem run_q {la : List B} : ∀ {qs : List Qu} {r : Rd}, r.labels = la → r.seen = true → (∀ q ∈ qs, GoodQ la.length q) → r.qs.length + qs.length ≤ 16 → runM r (qs.map confQ ++ [[]]) = (⟨la, r.qs ++ qs, true⟩, 0)
  | [], r, h1, h2, _, _ => by
    show (bif (lineM r (wordsM [])).2 == 0 then runM (lineM r (wordsM [])).1 [] else lineM r (wordsM [])) = _
    rw [wordsM_nil, line_none r rfl]
    show (r, 0) = _
    rw [List.append_nil, ← h1, ← h2]
  | q :: qs, r, h1, h2, h3, h4 => by
    have hq := h3 q List.mem_cons_self
    have h4 : r.qs.length + (qs.length + 1) ≤ 16 := h4
    show (bif (lineM r (wordsM (confQ q))).2 == 0 then runM (lineM r (wordsM (confQ q))).1 (qs.map confQ ++ [[]]) else lineM r (wordsM (confQ q))) = _
    rw [words_q hq, line_q (h1 ▸ hq) h2 (by omega)]
    show runM { r with qs := r.qs ++ [q] } (qs.map confQ ++ [[]]) = _
    rw [run_q (r := { r with qs := r.qs ++ [q] }) h1 h2 (fun x hx => h3 x (List.mem_cons_of_mem _ hx)) (by show (r.qs ++ [q]).length + qs.length ≤ 16; simp; omega)]
    show ((⟨la, (r.qs ++ [q]) ++ qs, true⟩ : Rd), (0 : Int)) = _
    rw [List.append_assoc]; rfl
theorem conf_no {la : List B} {qs : List Qu} (h : GoodC la qs) : ∀ l ∈ confL la :: qs.map confQ, (10 : UInt8) ∉ l := by
  intro l hl hm
  rcases List.mem_cons.1 hl with rfl | hl
  · rcases List.mem_append.1 (show (10 : UInt8) ∈ wLabels ++ heads 32 (la.drop 1) from hm) with hm | hm
    · exact labels_wd.nl hm
    · exact heads_no (by decide) (fun x hx => (h.ls x hx).nl) hm
  · obtain ⟨q, hq, rfl⟩ := List.mem_map.1 hl
    rcases List.mem_append.1 (show (10 : UInt8) ∈ wQueue ++ heads 32 (qWords q) from hm) with hm | hm
    · exact queue_wd.nl hm
    · exact heads_no (by decide) (fun x hx => (qWords_wd (h.q q hq) x hx).nl) hm
theorem run_text {la : List B} {qs : List Qu} (h : GoodC la qs) : runM rd0 (textM (textC la qs)) = (⟨la, qs, true⟩, 0) := by
  show runM rd0 (splitM 10 (textC la qs)) = _
  unfold textC
  rw [split_ends (conf_no h)]
  show (bif (lineM rd0 (wordsM (confL la))).2 == 0 then runM (lineM rd0 (wordsM (confL la))).1 (qs.map confQ ++ [[]]) else lineM rd0 (wordsM (confL la))) = _
  have hw : wordsM (confL la) = wLabels :: la.drop 1 := words_heads labels_wd h.ls
  have hl : (wLabels :: la.drop 1).length = la.length := by
    conv => rhs; rw [h.hd]
    rfl
  have hL : lineM rd0 (wLabels :: la.drop 1) = (⟨la, [], true⟩, 0) := by
    have hnl : newL (wLabels :: la.drop 1) = la := by
      conv => rhs; rw [h.hd]
      rfl
    unfold lineM
    rw [dF (by simp : ¬ (wLabels :: la.drop 1).length = 0), dF (by have := h.l3; omega : ¬ 3 < (wLabels :: la.drop 1).length), hnl]
    rfl
  rw [hw, hL]
  show runM ⟨la, [], true⟩ (qs.map confQ ++ [[]]) = _
  rw [run_q (la := la) (r := ⟨la, [], true⟩) rfl rfl h.q (by have := h.q16; show 0 + qs.length ≤ 16; omega)]
  rfl
theorem insF_end : ∀ {qs : List Qu} {x : Qu}, (∀ y ∈ qs, ltQ y x = true) → insF qs x = qs ++ [x] ∧ isF qs x = false
  | [], x, _ => ⟨rfl, rfl⟩
  | y :: ys, x, h => by
    obtain ⟨i1, i2⟩ := insF_end (qs := ys) (x := x) (fun z hz => h z (List.mem_cons_of_mem _ hz))
    have hy := h y List.mem_cons_self
    exact ⟨by show (bif ltQ y x then y :: insF ys x else _) = _; rw [hy, i1]; rfl, by show (bif ltQ y x then isF ys x else _) = _; rw [hy, i2]; rfl⟩
theorem strict_kept (qs : List Qu) (h : Strict qs) : Kept qs qs false := by
  have key : ∀ n, n ≤ qs.length → Kept (qs.take n) (qs.take n) false := by
    intro n
    induction n with
    | zero => intro _; exact Kept.nil
    | succ n ih =>
      intro hn
      have i := (ih (by omega)).add (qs.getD n qd)
      have ht : qs.take (n + 1) = qs.take n ++ [qs.getD n qd] := take_snoc' qd (by omega)
      obtain ⟨e1, e2⟩ := insF_end (qs := qs.take n) (x := qs.getD n qd) (fun y hy => by
        obtain ⟨j, hj, rfl⟩ := List.mem_iff_getElem.1 hy
        have hj : j < n := by simp at hj; omega
        have := List.pairwise_iff_getElem.1 h j n (by omega) (by omega) hj
        simpa [List.getD, show n < qs.length by omega] using this)
      rw [e1, e2] at i
      rw [ht]; exact i
  have := key qs.length (Nat.le_refl _)
  rwa [List.take_length] at this
/-- A configuration's text is read as the configuration. -/
theorem parse_text {la : List B} {qs : List Qu} (h : GoodC la qs) (hl : (textC la qs).length ≤ 2000) : parseM (textC la qs) = ⟨la, qs, 0⟩ := by
  have hr := run_text h
  obtain ⟨o1, o2⟩ := (strict_kept qs h.st).end_once
  have h0 : decide (((textC la qs).length : Int) > 2000) = false := dF (by omega)
  rw [parse_ok h0 hr rfl o2]
  show (⟨la, orderM qs.length qs, 0⟩ : PM) = _
  rw [o1]
end Go.Proofs.YtaonjbojhikndaaDoor

namespace Go.Proofs.YtaonjbojhikndaaDoor
open Go Go.W Go.Proofs Go.Shelf Go.RowKit
set_option maxRecDepth 100000
def renI : Shelf.Ren := {
    f := fun x =>
      match x with
      | 171 => 33
      | 243 => 46
      | 246 => 55
      | 283 => 64
      | 284 => 65
      | 285 => 66
      | 286 => 67
      | 129 => 85
      | 317 => 84
      | 318 => 86
      | 319 => 87
      | 320 => 88
      | 337 => 99
      | 338 => 100
      | n => n,
    t := fun x =>
      match x with
      | 3 => 3
      | 9 => 9
      | 2 => 2
      | 4 => 4
      | 171 => 102
      | 0 => 0
      | 53 => 103
      | 37 => 43
      | 5 => 5
      | 173 => 106
      | 212 => 118
      | 51 => 119
      | 20 => 20
      | 213 => 120
      | 46 => 101
      | 232 => 144
      | 233 => 145
      | n => n,
    g := fun x =>
      match x with
      | 17 => 1
      | 18 => 6
      | 19 => 7
      | n => n }
theorem laysI : LaysM.n171 Tryd.prog renI where
  mixed := by kernel_rfl
  f129 := Tryd.func85.trans (congrArg some (by kernel_rfl))
  f171 := Tryd.func33.trans (congrArg some (by kernel_rfl))
  f243 := Tryd.func46.trans (congrArg some (by kernel_rfl))
  f246 := Tryd.func55.trans (congrArg some (by kernel_rfl))
  f283 := Tryd.func64.trans (congrArg some (by kernel_rfl))
  f284 := Tryd.func65.trans (congrArg some (by kernel_rfl))
  f285 := Tryd.func66.trans (congrArg some (by kernel_rfl))
  f286 := Tryd.func67.trans (congrArg some (by kernel_rfl))
  f317 := Tryd.func84.trans (congrArg some (by kernel_rfl))
  f318 := Tryd.func86.trans (congrArg some (by kernel_rfl))
  f319 := Tryd.func87.trans (congrArg some (by kernel_rfl))
  f320 := Tryd.func88.trans (congrArg some (by kernel_rfl))
  f337 := Tryd.func99.trans (congrArg some (by kernel_rfl))
  f338 := Tryd.func100.trans (congrArg some (by kernel_rfl))
  t0 := Tryd.underlying0
  a0 := Tryd.isAgg0
  z0 := Tryd.sizeOf0
  v0 := Tryd.zeroValue0
  t2 := Tryd.underlying2
  a2 := Tryd.isAgg2
  z2 := Tryd.sizeOf2
  v2 := Tryd.zeroValue2
  t3 := Tryd.underlying3
  a3 := Tryd.isAgg3
  z3 := Tryd.sizeOf3
  v3 := Tryd.zeroValue3
  t4 := Tryd.underlying4
  a4 := Tryd.isAgg4
  z4 := Tryd.sizeOf4
  v4 := Tryd.zeroValue4
  t5 := Tryd.underlying5
  a5 := Tryd.isAgg5
  z5 := Tryd.sizeOf5
  v5 := Tryd.zeroValue5
  t9 := Tryd.underlying9
  a9 := Tryd.isAgg9
  z9 := Tryd.sizeOf9
  v9 := Tryd.zeroValue9
  t20 := Tryd.underlying20
  a20 := Tryd.isAgg20
  z20 := Tryd.sizeOf20
  v20 := Tryd.zeroValue20
  t37 := Tryd.underlying43
  a37 := Tryd.isAgg43
  z37 := Tryd.sizeOf43
  v37 := Tryd.zeroValue43
  t46 := Tryd.underlying101
  a46 := Tryd.isAgg101
  z46 := Tryd.sizeOf101
  v46 := Tryd.zeroValue101
  t51 := Tryd.underlying119
  a51 := Tryd.isAgg119
  z51 := Tryd.sizeOf119
  v51 := Tryd.zeroValue119
  t53 := Tryd.underlying103
  a53 := Tryd.isAgg103
  z53 := Tryd.sizeOf103
  v53 := Tryd.zeroValue103
  t171 := Tryd.underlying102
  a171 := Tryd.isAgg102
  z171 := Tryd.sizeOf102
  v171 := Tryd.zeroValue102
  t173 := Tryd.underlying106
  a173 := Tryd.isAgg106
  z173 := Tryd.sizeOf106
  v173 := Tryd.zeroValue106
  t212 := Tryd.underlying118
  a212 := Tryd.isAgg118
  z212 := Tryd.sizeOf118
  v212 := Tryd.zeroValue118
  t213 := Tryd.underlying120
  a213 := Tryd.isAgg120
  z213 := Tryd.sizeOf120
  t232 := Tryd.underlying144
  a232 := Tryd.isAgg144
  z232 := Tryd.sizeOf144
  v232 := Tryd.zeroValue144
  t233 := Tryd.underlying145
  a233 := Tryd.isAgg145
  z233 := Tryd.sizeOf145
  v233 := Tryd.zeroValue145
  g17 := by kernel_rfl
  g18 := by kernel_rfl
  g19 := by kernel_rfl
  i0 := by kernel_rfl
  i2 := by kernel_rfl
  i3 := by kernel_rfl
  i4 := by kernel_rfl
  i5 := by kernel_rfl
  i9 := by kernel_rfl
  i20 := by kernel_rfl
  i37 := by kernel_rfl
  i46 := by kernel_rfl
  i51 := by kernel_rfl
  i53 := by kernel_rfl
  i171 := by kernel_rfl
  i173 := by kernel_rfl
  i212 := by kernel_rfl
  i232 := by kernel_rfl
  i233 := by kernel_rfl
  m17 := by kernel_rfl
  m18 := by kernel_rfl
  m19 := by kernel_rfl

theorem LayOk.tab {N F : Nat → Prop} {φ : Phi} {h : Hp regK.T} {w : World} (hH : HR N F φ h w) : tabK w := by
  obtain ⟨w0, h0, h1⟩ := hH.lay
  have hs : w0.heap.size ≤ w.heap.size := by
    rcases Nat.eq_zero_or_pos w0.heap.size with h | h
    · omega
    · have := hH.frz _ (h1 (w0.heap.size - 1) (by omega)).1
      omega
  have hb : Below w0.heap.size w0 { w0 with heap := w.heap } := ⟨rfl, rfl, rfl, hs, fun b hb => (h1 b hb).2⟩
  have h2 : Lib.TabIs Tryd.prog { w0 with heap := w.heap } tabN .u64 Lib.pow10Tab := Lib.tabBelow_of_tabIs h0 _ hb
  exact h2
/-- New blocks behind the others. -/
theorem HRel.more {N F : Nat → Prop} {φ : Phi} {h : Hp regK.T} {w w' : World} (hH : HR N F φ h w) (hs : w.heap.size ≤ w'.heap.size) (hold : ∀ b, b < w.heap.size → w'.heap[b]? = w.heap[b]?) : HR N F φ h w' := by
  have hm : ∀ b, F b → F b ∧ w'.heap[b]? = w.heap[b]? := fun b hb => ⟨hb, hold b (hH.frz b hb)⟩
  exact ⟨fun i o ho => (hH.obj i o ho).mono regK hm (fun _ _ h => h) (fun h => h) (fun b s k hp => hold b (hH.own i o b s k ho hp).2), fun i o b s k ho hp => ⟨(hH.own i o b s k ho hp).1, Nat.lt_of_lt_of_le (hH.own i o b s k ho hp).2 hs⟩, hH.inj, hH.dom, hH.lt, hH.ok, fun b hb => Nat.lt_of_lt_of_le (hH.frz b hb) hs, hH.lay.mono regK hm⟩
theorem GO.more {N F : Nat → Prop} {φ : Phi} {h : Hp regK.T} {w w' : World} (hH : HR N F φ h w) (hb : Below w.heap.size w w') : GO N F φ h w N F φ h w' :=
  ⟨⟨hb.os, hb.tape, hb.output, hb.size, fun b hb' _ => hb.block b hb', fun _ h => h, fun _ h => .inl h, fun _ _ => rfl, fun _ h => h, fun _ h => .inl h, fun i p hp => .inl (hH.dom i p hp)⟩, Grow.refl h, fun _ hi => .inl hi⟩
def numI (n : Int) : B := Lib.itoa n
theorem numI_nonneg {n : Int} (h : 0 ≤ n) : numI n = numT n := by
  unfold numI numT Lib.itoa
  rw [if_neg (by omega)]
def u33 : TB := fun args h => match args with
  | [.d (.int .i64 n)] => .need (decide (-9223372036854775808 ≤ n) && decide (n ≤ 9223372036854775807)) (.ret (ks (numI n), h))
  | _ => .bad
theorem a33 : RowOK 33 u33 := by
  intro args h Q hq
  unfold u33 at hq
  split at hq
  · rename_i n
    obtain ⟨hb, hq⟩ := Out.K_need.1 hq
    rw [Bool.and_eq_true] at hb
    refine ⟨there 33 (by kernel_rfl), fun N F φ w cargs _ hH hl => ?_⟩
    obtain ⟨hsz, hrel⟩ := hl
    have hx := hrel 0 (by simp)
    have hc : cargs = #[.int .i64 n] := by
      apply Array.ext
      · simpa using hsz.symm
      · intro i h1 h2
        have h2 : i < 1 := by simpa using h2
        have : i = 0 := by omega
        subst this
        have := hx.int_inv
        simpa [Array.getD, h1] using this
    subst hc
    refine (Any.strconv_Itoa laysI n (of_decide_eq_true hb.1) (of_decide_eq_true hb.2) w (LayOk.tab hH)).mono fun e w' he => ?_
    obtain ⟨he, k, os, hw⟩ := he
    have hbl : Below w.heap.size w w' := hw ▸ Lib.below_grow _ w (Nat.le_refl _) k os
    have hH' := HRel.more hH hbl.size hbl.block
    exact ⟨_, he, _, _, _, _, _, hq, .d _ _ (.str _), hH', GO.more hH hbl⟩
  · exact hq.elim
end Go.Proofs.YtaonjbojhikndaaDoor

namespace Go.Proofs.YtaonjbojhikndaaDoor
open Go Go.W
set_option maxRecDepth 100000
def K31 : Con regK.T := fun f => lookN [(33, u33)] f
theorem K31_ok : ConOk Tryd.prog K31 := con_cons a33 con_nil
noncomputable def e31 : Hd regK.T := hdT regK Tryd.prog K31 (fun _ => false) 1000 5
theorem e31_sound : HdSound Tryd.prog e31 := hdT_sound mixed hno K31_ok _ _ _
def okI (n : Int) : Bool := decide (-9223372036854775808 ≤ n) && decide (n ≤ 9223372036854775807)
def okC (c : Cp) : Bool := okI c.least && okI c.most
def okQ (q : Qu) : Bool := Nat.ble q.path.length 2000 && Nat.ble q.caps.length 10 && okI q.user && q.caps.all okC
def AT.ok (a : AT) : Bool := Nat.ble a.la.length 10 && (a.la.all fun l => Nat.ble l.length 2000) && Nat.ble a.qs.length 20 && a.qs.all okQ
def tL (la : List B) : Nat → B
  | 0 => wLabels
  | k + 1 => bif Nat.beq k 0 then wLabels else tL la k ++ ([32] ++ la.getD k [])
def cT (c : Cp) : B := [32] ++ numI c.least ++ [47] ++ numI c.most
def tC (cs : List Cp) (a : B) : Nat → B
  | 0 => a
  | k + 1 => tC cs a k ++ cT (cs.getD k cd)
def qH (a : B) (q : Qu) : B := a ++ ([113, 117, 101, 117, 101, 32] ++ q.path ++ [32] ++ numI q.user)
def tQ (qs : List Qu) (a : B) : Nat → B
  | 0 => a
  | k + 1 => tC (qs.getD k qd).caps (qH (tQ qs a k) (qs.getD k qd)) (qs.getD k qd).caps.length ++ [10]
def tA (la : List B) : B := tL la la.length ++ [10]
def textI (la : List B) (qs : List Qu) : B := tQ qs (tA la) qs.length
def S20 : Go.W.Spec regK.T := ⟨AT, fun a => [.agg [.d (.sl 9 a.la), .d (.sl 46 a.qs)]], fun _ => [], AT.ok, fun a => .ret (ks (textI a.la a.qs), [])⟩
def M20 : Meet S20 where
  find args _ := match args with
    | [.agg [.d l1, .d q1]] => (match lD l1, qD q1 with
      | some a, some b => some (⟨a, b⟩, [])
      | _, _ => none)
    | _ => none
  ok args g a ρ h := by
    split at h
    · split at h
      · rename_i h1 h2
        cases h
        exact ⟨⟨⟨lD_cov h1, qD_cov h2, trivial⟩, trivial⟩, rfl, fun j o' hj => by simp [S20] at hj⟩
      · cases h
    · cases h
def L20 (a : AT) (g : Nat) (k : Nat) (_ : St regK.T) : Option (LoopI regK.T Nat) := match Nat.beq k 3 with
  | true => some ⟨{ k : Nat // k ≤ a.la.length }, fun k => ⟨[(1, .ptr 0 0 0), (3, ks (tL a.la k.1)), (11, .d (.sl 9 a.la)), (12, ki (a.la.length : Nat)), (13, ki (k.1 : Nat))], [(0, .rows 2 [[.d (.sl 9 a.la), .d (.sl 46 a.qs)]])], 1⟩, fun k => a.la.length - k.1, fun _ => 0⟩
  | false => (match Nat.beq k 10 with
    | true => some ⟨{ i : Nat // i ≤ a.qs.length }, fun i => ⟨[(1, .ptr 0 0 0), (3, ks (tQ a.qs (tA a.la) i.1)), (28, .d (.sl 46 a.qs)), (29, ki (a.qs.length : Nat)), (30, ki (i.1 : Nat))], [(0, .rows 2 [[.d (.sl 9 a.la), .d (.sl 46 a.qs)]])], 1⟩, fun i => a.qs.length - i.1, fun i => i.1⟩
    | false => (match Nat.beq k 14 with
      | true => some ⟨{ k : Nat // k ≤ (a.qs.getD g qd).caps.length }, fun k => ⟨[(1, .ptr 0 0 0), (3, ks (tC (a.qs.getD g qd).caps (qH (tQ a.qs (tA a.la) g) (a.qs.getD g qd)) k.1)), (28, .d (.sl 46 a.qs)), (29, ki (a.qs.length : Nat)), (30, ki (g : Nat)), (45, .d (.sl 48 (a.qs.getD g qd).caps)), (46, ki ((a.qs.getD g qd).caps.length : Nat)), (47, ki (k.1 : Nat))],
          [(0, .rows 2 [[.d (.sl 9 a.la), .d (.sl 46 a.qs)]])], 1⟩, fun k => (a.qs.getD g qd).caps.length - k.1, fun _ => g⟩
      | false => none))
/-! ### ConfAgain -/
def K32 : Con regK.T := fun f => lookN [(11, S11.con M11), (12, S12.con M12), (14, S14.con M14), (15, S15.con M15), (16, S16.con M16), (17, S17.con (MB sm _)), (19, S19.con M19), (20, S20.con M20)] f
noncomputable def e32 : Hd regK.T := hdT regK Tryd.prog K32 (fun _ => false) 1000 5
structure P8 (x : R9) : Prop where
  i : x.i ≤ 3
  n : x.xs.length = 3
  sm : ∀ t ∈ x.xs, sm t = true
def L8 (_ : Nat) (k : Nat) (_ : St regK.T) : Option (LoopI regK.T Nat) := match Nat.beq k 9 with
  | true => some ⟨{ x : R9 // P8 x }, fun x => ⟨[(9, .sl 0 0 3 (.least 0)), (10, ki (x.1.i : Nat))], [(0, .trows 9 x.1.xs)], 1⟩, fun x => 3 - x.1.i, fun _ => 0⟩
  | false => none
def J8 (a : A3) (_ : Nat) (k : Nat) : Option (LoopI regK.T Nat) := match Nat.beq k 7 with
  | true => some ⟨{ x : R7 // x.k ≤ x.w.length ∧ x.w.length ≤ 100000 }, fun x => ⟨[(0, .d (.sl 3 a.ns)), (7, ks x.1.w), (8, ki (x.1.k : Nat))], [], 0⟩, fun _ => 0, fun _ => 0⟩
  | false => none
def YesA (a : A3) : Prop := awpFun regK Tryd.prog e32 1000 (fun _ => []) L8 (J8 a) (0 : Nat) Tryd.f8 [.d (.sl 3 a.ns), .agg [ki a.r.l, .d (.sl 58 a.r.qs)], ki a.cut] (fun r => yes r.1)
/-! ### ConfBlanks -/
structure Tk where
  d : List (List B)
  c : List B
  w : B
def flush (c : List B) (w : B) : List B := bif w == [] then c else c ++ [w]
def addL (d : List (List B)) (c : List B) : List (List B) := bif c == [] then d else d ++ [c]
def stepT (t : Tk) (x : UInt8) : Tk := bif x == 10 then ⟨addL t.d (flush t.c t.w), [], []⟩ else bif x == 32 then ⟨t.d, flush t.c t.w, []⟩ else ⟨t.d, t.c, t.w ++ [x]⟩
def tokF (s : B) : Tk := s.foldl stepT ⟨[], [], []⟩
structure IsText (t : B) : Prop where
  len : t.length ≤ 100000
  good : ∃ la qs, GoodC la qs ∧ t = textC la qs
structure R77 where
  i : Nat
  k : Nat
  s : B
structure P77 (t : B) (ns : List Int) (x : R77) : Prop where
  i : x.i ≤ t.length
  k : x.k ≤ x.i
  len : x.s.length ≤ 8 * x.i
  tok : tokF x.s = tokF (t.take x.i)
structure G77 where
  t : B
  i : Nat
def L7 (ns : List Int) (g : G77) (k : Nat) (_ : St regK.T) : Option (LoopI regK.T G77) := match Nat.beq k 9 with
  | true => some ⟨{ x : R77 // P77 g.t ns x }, fun x => ⟨[(1, .d (.sl 3 ns)), (5, ks g.t), (6, ks x.1.s), (7, ki (x.1.k : Nat)), (8, ki (x.1.i : Nat))], [], 0⟩, fun x => g.t.length - x.1.i, fun x => ⟨g.t, x.1.i⟩⟩
  | false => none
def J7 (ns : List Int) (g : G77) (k : Nat) : Option (LoopI regK.T G77) := match Nat.beq k 6 with
  | true => some ⟨{ t : B // IsText t }, fun t => ⟨[(1, .d (.sl 3 ns)), (5, ks t.1)], [], 0⟩, fun _ => 0, fun t => ⟨t.1, 0⟩⟩
  | false => (match Nat.beq k 10 with
    | true => some ⟨{ x : R77 // P77 g.t ns { x with i := x.i + 1 } ∧ x.i < g.t.length ∧ x.i = g.i }, fun x => ⟨[(1, .d (.sl 3 ns)), (5, ks g.t), (6, ks x.1.s), (7, ki (x.1.k : Nat)), (8, ki (x.1.i : Nat))], [], 0⟩, fun _ => 0, fun _ => g⟩
    | false => (match Nat.beq k 17 with
      | true => some ⟨{ s : B // tokF s = tokF g.t ∧ s.length ≤ 800000 }, fun s => ⟨[(5, ks g.t), (6, ks s.1)], [], 0⟩, fun _ => 0, fun _ => g⟩
      | false => none))
def YesB (r : AR) (ns : List Int) : Prop := awpFun regK Tryd.prog e32 1000 (fun _ => []) (L7 ns) (J7 ns) (⟨[], 0⟩ : G77) Tryd.f7 [.agg [ki r.l, .d (.sl 58 r.qs)], .d (.sl 3 ns)] (fun r => yes r.1)
end Go.Proofs.YtaonjbojhikndaaDoor
