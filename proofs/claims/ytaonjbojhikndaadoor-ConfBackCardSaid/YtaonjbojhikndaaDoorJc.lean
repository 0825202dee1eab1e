/- The reference's Parse; Same; few, put, mix, Decimal: forms. No conditions. -/
import Derived.Test.YtaonjbojhikndaaDoorJb
import Derived.Test.YtaonjbojhikndaaDoorFg
namespace Go.Proofs.YtaonjbojhikndaaDoor
open Go Go.W Go.Proofs
set_option maxRecDepth 100000
theorem v18 (s : B) : (OwesD e24 (18 : Nat) (SB sm s17) A18 (L18 s) (J18 s) g18 s) = ( branch (decide ((↑(List.length s) : Int) > (2000 : Int))) ((((parseM s).labels = [] ∧ (parseM s).qs = [] ∧ True) ∧ (parseM s).err = (5 : Int) ∧ True) ∧ True) (branch (S30.pre (AC.mk s (10 : Nat))) ((∃ (x : { x : G18 // V18 s x }), (((0 : Nat) = (0 : Nat) ∧ (0 : Nat) = (0 : Nat)) ∧ ((0 : Nat) = (0 : Nat) ∧ (0 : Nat) = (0 : Nat)) ∧ x.val.tw = false ∧ d9 (linesR s) = d9 (cutR (UInt8.ofNat (10 : Nat)) s) ∧ (↑x.val.i : Int) = (0 : Int) ∧ True) ∧ ((nilsD = D.nils ∧ nilsD = D.nils ∧ True) ∧ True) ∧ ((x.val.r.labels = [] ∧ x.val.qs = [] ∧ True) ∧ True) ∧ True) ∧ ∀ (x : { x : G18 // V18 s x }), branch (decide ((↑x.val.i : Int) < (↑(linesR s).length : Int))) (branch (decide ((↑x.val.i : Int) < (↑(linesR s).length : Int)) && true && true) (branch ((SB sm s26).pre ((linesR s).getD (↑x.val.i : Int).toNat [])) (branch ((↑(wordsM ((linesR s).getD (↑x.val.i : Int).toNat [])).length : Int) == (0 : Int)) (∃ (x' : { x : G18 // V18 s x }), (linesR s).length - x'.val.i < (linesR s).length - x.val.i ∧ (((0 : Nat) = (0 : Nat) ∧ (0 : Nat) = (0 : Nat)) ∧ ((0 : Nat) = (0 : Nat) ∧ (0 : Nat) = (0 : Nat)) ∧ x'.val.tw = x.val.tw ∧ d9 (linesR s) = d9 (linesR s) ∧ (↑x'.val.i : Int) = IntKind.i64.wrap ((↑x.val.i : Int) + (1 : Int)) ∧ True) ∧ ((nilsD = D.nils ∧ nilsD = D.nils ∧ True) ∧ True) ∧ ((d9 x'.val.r.labels = d9 x.val.r.labels ∧ d46 x'.val.qs = d46 x.val.qs ∧ True) ∧ True) ∧ True) (branch ((↑x.val.r.labels.length : Int) == (0 : Int)) (branch (decide ((0 : Int) < (↑(wordsM ((linesR s).getD (↑x.val.i : Int).toNat [])).length : Int)) && true && true) (branch (!(wordsM ((linesR s).getD (↑x.val.i : Int).toNat [])).getD (0 : Nat) [] == [OfNat.ofNat (108 : Nat), OfNat.ofNat (97 : Nat), OfNat.ofNat (98 : Nat), OfNat.ofNat (101 : Nat), OfNat.ofNat (108 : Nat), OfNat.ofNat (115 : Nat)]) ((((parseM s).labels = [] ∧ (parseM s).qs = [] ∧ True) ∧ (parseM s).err = (6 : Int) ∧ True) ∧ True) (branch (decide ((↑(wordsM ((linesR s).getD (↑x.val.i : Int).toNat [])).length : Int) > (3 : Int))) ((((parseM s).labels = [] ∧ (parseM s).qs = [] ∧ True) ∧ (parseM s).err = (4 : Int) ∧ True) ∧ True) (branch (decide ((1 : Int) ≤ (↑(wordsM ((linesR s).getD (↑x.val.i : Int).toNat [])).length : Int)) && decide ((↑(wordsM ((linesR s).getD (↑x.val.i : Int).toNat [])).length : Int) ≤ (↑(wordsM ((linesR s).getD (↑x.val.i : Int).toNat [])).length : Int)) && true && true) (branch (((1 : Nat) + (List.drop (1 : Nat) (List.take (↑(wordsM ((linesR s).getD (↑x.val.i : Int).toNat [])).length : Int).toNat (wordsM ((linesR s).getD (↑x.val.i : Int).toNat [])))).length).ble (1 : Nat)) (branch (((1 : Nat) + (List.drop (1 : Nat) (List.take (↑(wordsM ((linesR s).getD (↑x.val.i : Int).toNat [])).length : Int).toNat (wordsM ((linesR s).getD (↑x.val.i : Int).toNat [])))).length).ble (1 : Nat)) (branch (((0 : Nat) + ((1 : Nat) + (List.drop (1 : Nat) (List.take (↑(wordsM ((linesR s).getD (↑x.val.i : Int).toNat [])).length : Int).toNat (wordsM
 ((linesR s).getD (↑x.val.i : Int).toNat [])))).length)).ble (setRange [[]] (1 : Nat) (List.drop (1 : Nat) (List.take (↑(wordsM ((linesR s).getD (↑x.val.i : Int).toNat [])).length : Int).toNat (wordsM ((linesR s).getD (↑x.val.i : Int).toNat []))))).length && true && true) (∃ (x' : { x : G18 // V18 s x }), (linesR s).length - x'.val.i < (linesR s).length - x.val.i ∧ (((0 : Nat) = (0 : Nat) ∧ (0 : Nat) = (0 : Nat)) ∧ ((0 : Nat) = (0 : Nat) ∧ (0 : Nat) = (0 : Nat)) ∧ x'.val.tw = x.val.tw ∧ d9 (linesR s) = d9 (linesR s) ∧ (↑x'.val.i : Int) = IntKind.i64.wrap ((↑x.val.i : Int) + (1 : Int)) ∧ True) ∧ ((nilsD = D.nils ∧ nilsD = D.nils ∧ True) ∧ True) ∧ ((d9 x'.val.r.labels = d9 (List.drop (0 : Nat) (List.take ((0 : Nat) + ((1 : Nat) + (List.drop (1 : Nat) (List.take (↑(wordsM ((linesR s).getD (↑x.val.i : Int).toNat [])).length : Int).toNat (wordsM ((linesR s).getD (↑x.val.i : Int).toNat [])))).length)) (setRange [[]] (1 : Nat) (List.drop (1 : Nat) (List.take (↑(wordsM ((linesR s).getD (↑x.val.i : Int).toNat [])).length : Int).toNat (wordsM ((linesR s).getD (↑x.val.i : Int).toNat []))))))) ∧ d46 x'.val.qs = d46 x.val.qs ∧ True) ∧ True) ∧ True) False) False) (branch ((((1 : Nat) + (List.drop (1 : Nat) (List.take (↑(wordsM ((linesR s).getD (↑x.val.i : Int).toNat [])).length : Int).toNat (wordsM ((linesR s).getD (↑x.val.i : Int).toNat [])))).length) * (16 : Nat)).ble (140737488355328 : Nat) && ((1 : Nat) + (List.drop (1 : Nat) (List.take (↑(wordsM ((linesR s).getD (↑x.val.i : Int).toNat [])).length : Int).toNat (wordsM ((linesR s).getD (↑x.val.i : Int).toNat [])))).length).ble (9223372036854775807 : Nat) && true && true && true) (branch (((0 : Nat) + ((1 : Nat) + (List.drop (1 : Nat) (List.take (↑(wordsM ((linesR s).getD (↑x.val.i : Int).toNat [])).length : Int).toNat (wordsM ((linesR s).getD (↑x.val.i : Int).toNat [])))).length)).ble ([[]] ++ List.drop (1 : Nat) (List.take (↑(wordsM ((linesR s).getD (↑x.val.i : Int).toNat [])).length : Int).toNat (wordsM ((linesR s).getD (↑x.val.i : Int).toNat [])))).length && true && true) (∃ (x' : { x : G18 // V18 s x }), (linesR s).length - x'.val.i < (linesR s).length - x.val.i ∧ (((0 : Nat) = (0 : Nat) ∧ (0 : Nat) = (0 : Nat)) ∧ ((0 : Nat) = (0 : Nat) ∧ (0 : Nat) = (0 : Nat)) ∧ x'.val.tw = x.val.tw ∧ d9 (linesR s) = d9 (linesR s) ∧ (↑x'.val.i : Int) = IntKind.i64.wrap ((↑x.val.i : Int) + (1 : Int)) ∧ True) ∧ ((nilsD = D.nils ∧ nilsD = D.nils ∧ True) ∧ True) ∧ ((d9 x'.val.r.labels = d9 (List.drop (0 : Nat) (List.take ((0 : Nat) + ((1 : Nat) + (List.drop (1 : Nat) (List.take (↑(wordsM ((linesR s).getD (↑x.val.i : Int).toNat [])).length : Int).toNat (wordsM ((linesR s).getD (↑x.val.i : Int).toNat [])))).length)) ([[]] ++ List.drop (1 : Nat) (List.take (↑(wordsM ((linesR s).getD (↑x.val.i : Int).toNat [])).length : Int).toNat (wordsM ((linesR s).getD (↑x.val.i : Int).toNat [])))))) ∧ d46 x'.val.qs = d46 x.val.qs ∧ True) ∧ True) ∧ True) False) False)) False))) False) (branch ((↑x.val.qs.length : Int) == (16 : Int)) (branch
 (decide ((0 : Int) < (↑(wordsM ((linesR s).getD (↑x.val.i : Int).toNat [])).length : Int)) && true && true) (branch ((wordsM ((linesR s).getD (↑x.val.i : Int).toNat [])).getD (0 : Nat) [] == [OfNat.ofNat (113 : Nat), OfNat.ofNat (117 : Nat), OfNat.ofNat (101 : Nat), OfNat.ofNat (117 : Nat), OfNat.ofNat (101 : Nat)]) ((((parseM s).labels = [] ∧ (parseM s).qs = [] ∧ True) ∧ (parseM s).err = (4 : Int) ∧ True) ∧ True) (∃ (x_1 : { _u : Nat // OkL s x.val }), (((0 : Nat) = (0 : Nat) ∧ (0 : Nat) = (0 : Nat)) ∧ ((0 : Nat) = (0 : Nat) ∧ (0 : Nat) = (0 : Nat)) ∧ x.val.tw = x.val.tw ∧ d9 (linesR s) = d9 (linesR s) ∧ (↑x.val.i : Int) = (↑x.val.i : Int) ∧ d9 (wOf s x.val) = d9 (wordsM ((linesR s).getD (↑x.val.i : Int).toNat [])) ∧ True) ∧ ((nilsD = D.nils ∧ nilsD = D.nils ∧ True) ∧ True) ∧ ((d9 x.val.r.labels = d9 x.val.r.labels ∧ d46 x.val.qs = d46 x.val.qs ∧ True) ∧ True) ∧ True)) False) (∃ (x_1 : { _u : Nat // OkL s x.val }), (((0 : Nat) = (0 : Nat) ∧ (0 : Nat) = (0 : Nat)) ∧ ((0 : Nat) = (0 : Nat) ∧ (0 : Nat) = (0 : Nat)) ∧ x.val.tw = x.val.tw ∧ d9 (linesR s) = d9 (linesR s) ∧ (↑x.val.i : Int) = (↑x.val.i : Int) ∧ d9 (wOf s x.val) = d9 (wordsM ((linesR s).getD (↑x.val.i : Int).toNat [])) ∧ True) ∧ ((nilsD = D.nils ∧ nilsD = D.nils ∧ True) ∧ True) ∧ ((d9 x.val.r.labels = d9 x.val.r.labels ∧ d46 x.val.qs = d46 x.val.qs ∧ True) ∧ True) ∧ True) ∧ ∀ (x_1 : { _u : Nat // OkL s x.val }), branch (S32.pre (AW.mk (wOf s x.val) (↑x.val.r.labels.length : Int))) (branch (!(queueR (wOf s x.val) (↑x.val.r.labels.length : Int)).snd) ((((parseM s).labels = [] ∧ (parseM s).qs = [] ∧ True) ∧ (parseM s).err = (6 : Int) ∧ True) ∧ True) (((∃ (x_2 : { k : Nat // k ≤ x.val.qs.length ∧ ∀ (j : Nat), j < k → ltQ (x.val.qs.getD j qd) (lineQ s x.val) = true }), (((0 : Nat) = (0 : Nat) ∧ (0 : Nat) = (0 : Nat)) ∧ ((0 : Nat) = (0 : Nat) ∧ (0 : Nat) = (0 : Nat)) ∧ x.val.tw = x.val.tw ∧ d9 (linesR s) = d9 (linesR s) ∧ (↑x.val.i : Int) = (↑x.val.i : Int) ∧ ((0 : Nat) = (0 : Nat) ∧ (0 : Nat) = (0 : Nat)) ∧ (↑x_2.val : Int) = (0 : Int) ∧ True) ∧ ((nilsD = D.nils ∧ nilsD = D.nils ∧ True) ∧ True) ∧ ((d9 x.val.r.labels = d9 x.val.r.labels ∧ d46 x.val.qs = d46 x.val.qs ∧ True) ∧ True) ∧ (((lineQ s x.val).path = (queueR (wOf s x.val) (↑x.val.r.labels.length : Int)).fst.path ∧ d48 (lineQ s x.val).caps = d48 (queueR (wOf s x.val) (↑x.val.r.labels.length : Int)).fst.caps ∧ (lineQ s x.val).user = (queueR (wOf s x.val) (↑x.val.r.labels.length : Int)).fst.user ∧ True) ∧ True) ∧ True) ∧ ∀ (x_2 : { k : Nat // k ≤ x.val.qs.length ∧ ∀ (j : Nat), j < k → ltQ (x.val.qs.getD j qd) (lineQ s x.val) = true }), branch (decide ((↑x_2.val : Int) < (↑x.val.qs.length : Int))) (branch (decide ((↑x_2.val : Int) < (↑x.val.qs.length : Int)) && true && true) (branch (Op.bytesLess (x.val.qs.getD (↑x_2.val : Int).toNat (Qu.mk [] [] (0 : Int))).path (lineQ s x.val).path) (∃ (x' : { k : Nat // k ≤ x.val.qs.length ∧ ∀ (j : Nat), j < k → ltQ (x.val.qs.getD j qd) (lineQ s x.val) = true }), x.val.qs.length - x'.val <
 x.val.qs.length - x_2.val ∧ (((0 : Nat) = (0 : Nat) ∧ (0 : Nat) = (0 : Nat)) ∧ ((0 : Nat) = (0 : Nat) ∧ (0 : Nat) = (0 : Nat)) ∧ x.val.tw = x.val.tw ∧ d9 (linesR s) = d9 (linesR s) ∧ (↑x.val.i : Int) = (↑x.val.i : Int) ∧ ((0 : Nat) = (0 : Nat) ∧ (0 : Nat) = (0 : Nat)) ∧ (↑x'.val : Int) = IntKind.i64.wrap ((↑x_2.val : Int) + (1 : Int)) ∧ True) ∧ ((nilsD = D.nils ∧ nilsD = D.nils ∧ True) ∧ True) ∧ ((d9 x.val.r.labels = d9 x.val.r.labels ∧ d46 x.val.qs = d46 x.val.qs ∧ True) ∧ True) ∧ (((lineQ s x.val).path = (lineQ s x.val).path ∧ d48 (lineQ s x.val).caps = d48 (lineQ s x.val).caps ∧ (lineQ s x.val).user = (lineQ s x.val).user ∧ True) ∧ True) ∧ True) (∃ (x_3 : { k : Nat // k ≤ x.val.qs.length ∧ (∀ (j : Nat), j < k → ltQ (x.val.qs.getD j qd) (lineQ s x.val) = true) ∧ (k < x.val.qs.length → ltQ (x.val.qs.getD k qd) (lineQ s x.val) = false) }), (((0 : Nat) = (0 : Nat) ∧ (0 : Nat) = (0 : Nat)) ∧ ((0 : Nat) = (0 : Nat) ∧ (0 : Nat) = (0 : Nat)) ∧ x.val.tw = x.val.tw ∧ d9 (linesR s) = d9 (linesR s) ∧ (↑x.val.i : Int) = (↑x.val.i : Int) ∧ ((0 : Nat) = (0 : Nat) ∧ (0 : Nat) = (0 : Nat)) ∧ (↑x_3.val : Int) = (↑x_2.val : Int) ∧ True) ∧ ((nilsD = D.nils ∧ nilsD = D.nils ∧ True) ∧ True) ∧ ((d9 x.val.r.labels = d9 x.val.r.labels ∧ d46 x.val.qs = d46 x.val.qs ∧ True) ∧ True) ∧ (((lineQ s x.val).path = (lineQ s x.val).path ∧ d48 (lineQ s x.val).caps = d48 (lineQ s x.val).caps ∧ (lineQ s x.val).user = (lineQ s x.val).user ∧ True) ∧ True) ∧ True)) False) (∃ (x_3 : { k : Nat // k ≤ x.val.qs.length ∧ (∀ (j : Nat), j < k → ltQ (x.val.qs.getD j qd) (lineQ s x.val) = true) ∧ (k < x.val.qs.length → ltQ (x.val.qs.getD k qd) (lineQ s x.val) = false) }), (((0 : Nat) = (0 : Nat) ∧ (0 : Nat) = (0 : Nat)) ∧ ((0 : Nat) = (0 : Nat) ∧ (0 : Nat) = (0 : Nat)) ∧ x.val.tw = x.val.tw ∧ d9 (linesR s) = d9 (linesR s) ∧ (↑x.val.i : Int) = (↑x.val.i : Int) ∧ ((0 : Nat) = (0 : Nat) ∧ (0 : Nat) = (0 : Nat)) ∧ (↑x_3.val : Int) = (↑x_2.val : Int) ∧ True) ∧ ((nilsD = D.nils ∧ nilsD = D.nils ∧ True) ∧ True) ∧ ((d9 x.val.r.labels = d9 x.val.r.labels ∧ d46 x.val.qs = d46 x.val.qs ∧ True) ∧ True) ∧ (((lineQ s x.val).path = (lineQ s x.val).path ∧ d48 (lineQ s x.val).caps = d48 (lineQ s x.val).caps ∧ (lineQ s x.val).user = (lineQ s x.val).user ∧ True) ∧ True) ∧ True)) ∧ ∀ (x_2 : { k : Nat // k ≤ x.val.qs.length ∧ (∀ (j : Nat), j < k → ltQ (x.val.qs.getD j qd) (lineQ s x.val) = true) ∧ (k < x.val.qs.length → ltQ (x.val.qs.getD k qd) (lineQ s x.val) = false) }), branch x.val.tw (∃ (x_3 : { k : Nat // k ≤ x.val.qs.length ∧ insF x.val.qs (lineQ s x.val) = List.take k x.val.qs ++ lineQ s x.val :: List.drop k x.val.qs }), (((0 : Nat) = (0 : Nat) ∧ (0 : Nat) = (0 : Nat)) ∧ ((0 : Nat) = (0 : Nat) ∧ (0 : Nat) = (0 : Nat)) ∧ (x.val.tw || isF x.val.qs (lineQ s x.val)) = true ∧ d9 (linesR s) = d9 (linesR s) ∧ (↑x.val.i : Int) = (↑x.val.i : Int) ∧ ((0 : Nat) = (0 : Nat) ∧ (0 : Nat) = (0 : Nat)) ∧ (↑x_3.val : Int) = (↑x_2.val : Int) ∧ True) ∧ ((nilsD = D.nils ∧ nilsD = D.nils ∧ True) ∧ True) ∧ ((d9 x.val.r.labels
 = d9 x.val.r.labels ∧ d46 x.val.qs = d46 x.val.qs ∧ True) ∧ True) ∧ (((lineQ s x.val).path = (lineQ s x.val).path ∧ d48 (lineQ s x.val).caps = d48 (lineQ s x.val).caps ∧ (lineQ s x.val).user = (lineQ s x.val).user ∧ True) ∧ True) ∧ True) (branch (decide ((↑x_2.val : Int) < (↑x.val.qs.length : Int))) (branch (decide ((↑x_2.val : Int) < (↑x.val.qs.length : Int)) && true && true) (∃ (x_3 : { k : Nat // k ≤ x.val.qs.length ∧ insF x.val.qs (lineQ s x.val) = List.take k x.val.qs ++ lineQ s x.val :: List.drop k x.val.qs }), (((0 : Nat) = (0 : Nat) ∧ (0 : Nat) = (0 : Nat)) ∧ ((0 : Nat) = (0 : Nat) ∧ (0 : Nat) = (0 : Nat)) ∧ (x.val.tw || isF x.val.qs (lineQ s x.val)) = ((x.val.qs.getD (↑x_2.val : Int).toNat (Qu.mk [] [] (0 : Int))).path == (lineQ s x.val).path) ∧ d9 (linesR s) = d9 (linesR s) ∧ (↑x.val.i : Int) = (↑x.val.i : Int) ∧ ((0 : Nat) = (0 : Nat) ∧ (0 : Nat) = (0 : Nat)) ∧ (↑x_3.val : Int) = (↑x_2.val : Int) ∧ True) ∧ ((nilsD = D.nils ∧ nilsD = D.nils ∧ True) ∧ True) ∧ ((d9 x.val.r.labels = d9 x.val.r.labels ∧ d46 x.val.qs = d46 x.val.qs ∧ True) ∧ True) ∧ (((lineQ s x.val).path = (lineQ s x.val).path ∧ d48 (lineQ s x.val).caps = d48 (lineQ s x.val).caps ∧ (lineQ s x.val).user = (lineQ s x.val).user ∧ True) ∧ True) ∧ True) False) (∃ (x_3 : { k : Nat // k ≤ x.val.qs.length ∧ insF x.val.qs (lineQ s x.val) = List.take k x.val.qs ++ lineQ s x.val :: List.drop k x.val.qs }), (((0 : Nat) = (0 : Nat) ∧ (0 : Nat) = (0 : Nat)) ∧ ((0 : Nat) = (0 : Nat) ∧ (0 : Nat) = (0 : Nat)) ∧ (x.val.tw || isF x.val.qs (lineQ s x.val)) = false ∧ d9 (linesR s) = d9 (linesR s) ∧ (↑x.val.i : Int) = (↑x.val.i : Int) ∧ ((0 : Nat) = (0 : Nat) ∧ (0 : Nat) = (0 : Nat)) ∧ (↑x_3.val : Int) = (↑x_2.val : Int) ∧ True) ∧ ((nilsD = D.nils ∧ nilsD = D.nils ∧ True) ∧ True) ∧ ((d9 x.val.r.labels = d9 x.val.r.labels ∧ d46 x.val.qs = d46 x.val.qs ∧ True) ∧ True) ∧ (((lineQ s x.val).path = (lineQ s x.val).path ∧ d48 (lineQ s x.val).caps = d48 (lineQ s x.val).caps ∧ (lineQ s x.val).user = (lineQ s x.val).user ∧ True) ∧ True) ∧ True)) ∧ ∀ (x_3 : { k : Nat // k ≤ x.val.qs.length ∧ insF x.val.qs (lineQ s x.val) = List.take k x.val.qs ++ lineQ s x.val :: List.drop k x.val.qs }), branch (decide ((↑x_3.val : Int) ≤ (↑x.val.qs.length : Int)) && true && true) (branch (((0 : Nat) + (List.drop (0 : Nat) (List.take (↑x_3.val : Int).toNat x.val.qs)).length).ble (0 : Nat)) (branch (((0 : Nat) + (List.drop (0 : Nat) (List.take (↑x_3.val : Int).toNat x.val.qs)).length).ble (0 : Nat)) (∃ (x_4 : { k : Nat // k ≤ x.val.qs.length ∧ insF x.val.qs (lineQ s x.val) = List.take k x.val.qs ++ lineQ s x.val :: List.drop k x.val.qs }), (((0 : Nat) = (0 : Nat) ∧ (0 : Nat) = (0 : Nat)) ∧ ((0 : Nat) = (0 : Nat) ∧ (0 : Nat) = (0 : Nat)) ∧ (x.val.tw || isF x.val.qs (lineQ s x.val)) = (x.val.tw || isF x.val.qs (lineQ s x.val)) ∧ d9 (linesR s) = d9 (linesR s) ∧ (↑x.val.i : Int) = (↑x.val.i : Int) ∧ ((0 : Nat) = (0 : Nat) ∧ (0 : Nat) = (0 : Nat)) ∧ (↑x_4.val : Int) = (↑x_3.val : Int) ∧ ((0 : Nat) = (0 : Nat) ∧ x_4.val = (0 :
 Nat) + (List.drop (0 : Nat) (List.take (↑x_3.val : Int).toNat x.val.qs)).length ∧ Nat.le (0 : Nat) (0 : Nat)) ∧ True) ∧ ((nilsD = D.nils ∧ nilsD = D.nils ∧ True) ∧ True) ∧ ((d9 x.val.r.labels = d9 x.val.r.labels ∧ d46 x.val.qs = d46 x.val.qs ∧ True) ∧ True) ∧ (((lineQ s x.val).path = (lineQ s x.val).path ∧ d48 (lineQ s x.val).caps = d48 (lineQ s x.val).caps ∧ (lineQ s x.val).user = (lineQ s x.val).user ∧ True) ∧ True) ∧ o46 (List.take x_4.val x.val.qs) = o46 (setRange [] (0 : Nat) (List.drop (0 : Nat) (List.take (↑x_3.val : Int).toNat x.val.qs))) ∧ True) False) (branch ((((0 : Nat) + (List.drop (0 : Nat) (List.take (↑x_3.val : Int).toNat x.val.qs)).length) * (48 : Nat)).ble (140737488355328 : Nat) && ((0 : Nat) + (List.drop (0 : Nat) (List.take (↑x_3.val : Int).toNat x.val.qs)).length).ble (9223372036854775807 : Nat) && true && true && true) (∃ (x_4 : { k : Nat // k ≤ x.val.qs.length ∧ insF x.val.qs (lineQ s x.val) = List.take k x.val.qs ++ lineQ s x.val :: List.drop k x.val.qs }), (((0 : Nat) = (0 : Nat) ∧ (0 : Nat) = (0 : Nat)) ∧ ((0 : Nat) = (0 : Nat) ∧ (0 : Nat) = (0 : Nat)) ∧ (x.val.tw || isF x.val.qs (lineQ s x.val)) = (x.val.tw || isF x.val.qs (lineQ s x.val)) ∧ d9 (linesR s) = d9 (linesR s) ∧ (↑x.val.i : Int) = (↑x.val.i : Int) ∧ ((0 : Nat) = (0 : Nat) ∧ (0 : Nat) = (0 : Nat)) ∧ (↑x_4.val : Int) = (↑x_3.val : Int) ∧ ((0 : Nat) = (0 : Nat) ∧ x_4.val = (0 : Nat) + (List.drop (0 : Nat) (List.take (↑x_3.val : Int).toNat x.val.qs)).length ∧ Nat.le (0 : Nat) ((0 : Nat) + (List.drop (Int.toNat (0 : Int)) (List.take (↑x_3.val : Int).toNat x.val.qs)).length)) ∧ True) ∧ ((nilsD = D.nils ∧ nilsD = D.nils ∧ True) ∧ True) ∧ ((d9 x.val.r.labels = d9 x.val.r.labels ∧ d46 x.val.qs = d46 x.val.qs ∧ True) ∧ True) ∧ (((lineQ s x.val).path = (lineQ s x.val).path ∧ d48 (lineQ s x.val).caps = d48 (lineQ s x.val).caps ∧ (lineQ s x.val).user = (lineQ s x.val).user ∧ True) ∧ True) ∧ o46 (List.take x_4.val x.val.qs) = o46 ([] ++ List.drop (0 : Nat) (List.take (↑x_3.val : Int).toNat x.val.qs)) ∧ True) False)) False ∧ ∀ (x_4 : { k : Nat // k ≤ x.val.qs.length ∧ insF x.val.qs (lineQ s x.val) = List.take k x.val.qs ++ lineQ s x.val :: List.drop k x.val.qs }), branch (((0 : Nat) + x_4.val).beq (List.take x_4.val x.val.qs).length) (branch (((x_4.val + (1 : Nat)) * (48 : Nat)).ble (140737488355328 : Nat) && (x_4.val + (1 : Nat)).ble (9223372036854775807 : Nat) && true && true && ((0 : Nat) + x_4.val).ble (List.take x_4.val x.val.qs).length) (branch (decide ((↑x_4.val : Int) ≤ (↑x.val.qs.length : Int)) && decide ((↑x.val.qs.length : Int) ≤ (↑x.val.qs.length : Int)) && true && true) (branch ((x_4.val + (1 : Nat) + (List.drop (↑x_4.val : Int).toNat (List.take (↑x.val.qs.length : Int).toNat x.val.qs)).length).ble (x_4.val + (1 : Nat))) (branch (((0 : Nat) + (x_4.val + (1 : Nat)) + (List.drop (↑x_4.val : Int).toNat (List.take (↑x.val.qs.length : Int).toNat x.val.qs)).length).ble (List.take x_4.val (List.drop (0 : Nat) (List.take x_4.val x.val.qs)) ++ [lineQ s x.val]).length)
 (branch (((0 : Nat) + (x_4.val + (1 : Nat) + (List.drop (↑x_4.val : Int).toNat (List.take (↑x.val.qs.length : Int).toNat x.val.qs)).length)).ble (setRange (List.take x_4.val (List.drop (0 : Nat) (List.take x_4.val x.val.qs)) ++ [lineQ s x.val]) ((0 : Nat) + (x_4.val + (1 : Nat))) (List.drop (↑x_4.val : Int).toNat (List.take (↑x.val.qs.length : Int).toNat x.val.qs))).length && true && true) (∃ (x' : { x : G18 // V18 s x }), (linesR s).length - x'.val.i < (linesR s).length - x.val.i ∧ (((0 : Nat) = (0 : Nat) ∧ (0 : Nat) = (0 : Nat)) ∧ ((0 : Nat) = (0 : Nat) ∧ (0 : Nat) = (0 : Nat)) ∧ x'.val.tw = (x.val.tw || isF x.val.qs (lineQ s x.val)) ∧ d9 (linesR s) = d9 (linesR s) ∧ (↑x'.val.i : Int) = IntKind.i64.wrap ((↑x.val.i : Int) + (1 : Int)) ∧ True) ∧ ((nilsD = D.nils ∧ nilsD = D.nils ∧ True) ∧ True) ∧ ((d9 x'.val.r.labels = d9 x.val.r.labels ∧ d46 x'.val.qs = d46 (List.drop (0 : Nat) (List.take ((0 : Nat) + (x_4.val + (1 : Nat) + (List.drop (↑x_4.val : Int).toNat (List.take (↑x.val.qs.length : Int).toNat x.val.qs)).length)) (setRange (List.take x_4.val (List.drop (0 : Nat) (List.take x_4.val x.val.qs)) ++ [lineQ s x.val]) ((0 : Nat) + (x_4.val + (1 : Nat))) (List.drop (↑x_4.val : Int).toNat (List.take (↑x.val.qs.length : Int).toNat x.val.qs))))) ∧ True) ∧ True) ∧ True) False) False) (branch (((0 : Nat) + (x_4.val + (1 : Nat))).beq (List.take x_4.val (List.drop (0 : Nat) (List.take x_4.val x.val.qs)) ++ [lineQ s x.val]).length) (branch (((x_4.val + (1 : Nat) + (List.drop (↑x_4.val : Int).toNat (List.take (↑x.val.qs.length : Int).toNat x.val.qs)).length) * (48 : Nat)).ble (140737488355328 : Nat) && (x_4.val + (1 : Nat) + (List.drop (↑x_4.val : Int).toNat (List.take (↑x.val.qs.length : Int).toNat x.val.qs)).length).ble (9223372036854775807 : Nat) && true && true && ((0 : Nat) + (x_4.val + (1 : Nat))).ble (List.take x_4.val (List.drop (0 : Nat) (List.take x_4.val x.val.qs)) ++ [lineQ s x.val]).length) (branch (((0 : Nat) + (x_4.val + (1 : Nat) + (List.drop (↑x_4.val : Int).toNat (List.take (↑x.val.qs.length : Int).toNat x.val.qs)).length)).ble (List.take (x_4.val + (1 : Nat)) (List.drop (0 : Nat) (List.take x_4.val (List.drop (0 : Nat) (List.take x_4.val x.val.qs)) ++ [lineQ s x.val])) ++ List.drop (↑x_4.val : Int).toNat (List.take (↑x.val.qs.length : Int).toNat x.val.qs)).length && true && true) (∃ (x' : { x : G18 // V18 s x }), (linesR s).length - x'.val.i < (linesR s).length - x.val.i ∧ (((0 : Nat) = (0 : Nat) ∧ (0 : Nat) = (0 : Nat)) ∧ ((0 : Nat) = (0 : Nat) ∧ (0 : Nat) = (0 : Nat)) ∧ x'.val.tw = (x.val.tw || isF x.val.qs (lineQ s x.val)) ∧ d9 (linesR s) = d9 (linesR s) ∧ (↑x'.val.i : Int) = IntKind.i64.wrap ((↑x.val.i : Int) + (1 : Int)) ∧ True) ∧ ((nilsD = D.nils ∧ nilsD = D.nils ∧ True) ∧ True) ∧ ((d9 x'.val.r.labels = d9 x.val.r.labels ∧ d46 x'.val.qs = d46 (List.drop (0 : Nat) (List.take ((0 : Nat) + (x_4.val + (1 : Nat) + (List.drop (↑x_4.val : Int).toNat (List.take (↑x.val.qs.length : Int).toNat x.val.qs)).length)) (List.take (x_4.val + (1 :
 Nat)) (List.drop (0 : Nat) (List.take x_4.val (List.drop (0 : Nat) (List.take x_4.val x.val.qs)) ++ [lineQ s x.val])) ++ List.drop (↑x_4.val : Int).toNat (List.take (↑x.val.qs.length : Int).toNat x.val.qs)))) ∧ True) ∧ True) ∧ True) False) False) False)) False) False) False)) False))) False) False) (branch ((↑x.val.r.labels.length : Int) == (0 : Int)) ((((parseM s).labels = [] ∧ (parseM s).qs = [] ∧ True) ∧ (parseM s).err = (6 : Int) ∧ True) ∧ True) (branch x.val.tw ((((parseM s).labels = [] ∧ (parseM s).qs = [] ∧ True) ∧ (parseM s).err = (7 : Int) ∧ True) ∧ True) (((d9 (parseM s).labels = d9 x.val.r.labels ∧ d46 (parseM s).qs = d46 x.val.qs ∧ True) ∧ (parseM s).err = (0 : Int) ∧ True) ∧ True)))) False)) := by kernel_rfl
theorem v19 (a : ASm) : (OwesDN e0 (19 : Nat) S19 (fun (_ : Nat) => []) (L19 a) noJ (G19.mk (0 : Nat)) a) = ( branch ((↑a.la.length : Int) != (↑a.lb.length : Int)) (sameM a = false ∧ True) (branch ((↑a.qa.length : Int) != (↑a.qb.length : Int)) (sameM a = false ∧ True) ((∃ (x : { i : Nat // i ≤ a.la.length ∧ allI a.lp i = true ∧ P19 a }), (((0 : Nat) = (0 : Nat) ∧ (0 : Nat) = (0 : Nat)) ∧ ((0 : Nat) = (0 : Nat) ∧ (0 : Nat) = (0 : Nat)) ∧ (↑x.val : Int) = (0 : Int) ∧ True) ∧ ((d9 a.la = d9 a.la ∧ d46 a.qa = d46 a.qa ∧ True) ∧ True) ∧ ((d9 a.lb = d9 a.lb ∧ d46 a.qb = d46 a.qb ∧ True) ∧ True) ∧ True) ∧ ∀ (x : { i : Nat // i ≤ a.la.length ∧ allI a.lp i = true ∧ P19 a }), branch (decide ((↑x.val : Int) < (↑a.la.length : Int))) (branch (decide ((↑x.val : Int) < (↑a.la.length : Int)) && true && true) (branch (decide ((↑x.val : Int) < (↑a.lb.length : Int)) && true && true) (branch (!a.la.getD (↑x.val : Int).toNat [] == a.lb.getD (↑x.val : Int).toNat []) (sameM a = false ∧ True) (∃ (x' : { i : Nat // i ≤ a.la.length ∧ allI a.lp i = true ∧ P19 a }), a.la.length - x'.val < a.la.length - x.val ∧ (((0 : Nat) = (0 : Nat) ∧ (0 : Nat) = (0 : Nat)) ∧ ((0 : Nat) = (0 : Nat) ∧ (0 : Nat) = (0 : Nat)) ∧ (↑x'.val : Int) = IntKind.i64.wrap ((↑x.val : Int) + (1 : Int)) ∧ True) ∧ ((d9 a.la = d9 a.la ∧ d46 a.qa = d46 a.qa ∧ True) ∧ True) ∧ ((d9 a.lb = d9 a.lb ∧ d46 a.qb = d46 a.qb ∧ True) ∧ True) ∧ True)) False) False) ((∃ (x : { i : Nat // i ≤ a.qa.length ∧ allI a.qp i = true ∧ allI a.lp a.la.length = true ∧ P19 a }), (((0 : Nat) = (0 : Nat) ∧ (0 : Nat) = (0 : Nat)) ∧ ((0 : Nat) = (0 : Nat) ∧ (0 : Nat) = (0 : Nat)) ∧ (↑x.val : Int) = (0 : Int) ∧ True) ∧ ((d9 a.la = d9 a.la ∧ d46 a.qa = d46 a.qa ∧ True) ∧ True) ∧ ((d9 a.lb = d9 a.lb ∧ d46 a.qb = d46 a.qb ∧ True) ∧ True) ∧ True) ∧ ∀ (x : { i : Nat // i ≤ a.qa.length ∧ allI a.qp i = true ∧ allI a.lp a.la.length = true ∧ P19 a }), branch (decide ((↑x.val : Int) < (↑a.qa.length : Int))) (branch (decide ((↑x.val : Int) < (↑a.qa.length : Int)) && true && true) (branch (decide ((↑x.val : Int) < (↑a.qb.length : Int)) && true && true) (branch (!(a.qa.getD (↑x.val : Int).toNat (Qu.mk [] [] (0 : Int))).path == (a.qb.getD (↑x.val : Int).toNat (Qu.mk [] [] (0 : Int))).path) (sameM a = false ∧ True) (branch ((a.qa.getD (↑x.val : Int).toNat (Qu.mk [] [] (0 : Int))).user != (a.qb.getD (↑x.val : Int).toNat (Qu.mk [] [] (0 : Int))).user) (sameM a = false ∧ True) (branch ((↑(a.qa.getD (↑x.val : Int).toNat (Qu.mk [] [] (0 : Int))).caps.length : Int) != (↑(a.qb.getD (↑x.val : Int).toNat (Qu.mk [] [] (0 : Int))).caps.length : Int)) (sameM a = false ∧ True) ((∃ (x_1 : { k : Nat // k ≤ (a.qa.getD x.val qd).caps.length ∧ allI (fun (k : Nat) => sameC ((a.qa.getD x.val qd).caps.getD k cd) ((a.qb.getD x.val qd).caps.getD k cd)) k = true }), (((0 : Nat) = (0 : Nat) ∧ (0 : Nat) = (0 : Nat)) ∧ ((0 : Nat) = (0 : Nat) ∧ (0 : Nat) = (0 : Nat)) ∧ (↑x.val : Int) = (↑x.val : Int) ∧ ((0 : Nat) = (0 : Nat) ∧ (0 : Nat) = (0 : Nat)) ∧ ((0 : Nat) = (0 : Nat) ∧ (0
 : Nat) = (0 : Nat)) ∧ (↑x_1.val : Int) = (0 : Int) ∧ True) ∧ ((d9 a.la = d9 a.la ∧ d46 a.qa = d46 a.qa ∧ True) ∧ True) ∧ ((d9 a.lb = d9 a.lb ∧ d46 a.qb = d46 a.qb ∧ True) ∧ True) ∧ (((a.qa.getD x.val qd).path = (a.qa.getD (↑x.val : Int).toNat (Qu.mk [] [] (0 : Int))).path ∧ d48 (a.qa.getD x.val qd).caps = d48 (a.qa.getD (↑x.val : Int).toNat (Qu.mk [] [] (0 : Int))).caps ∧ (a.qa.getD x.val qd).user = (a.qa.getD (↑x.val : Int).toNat (Qu.mk [] [] (0 : Int))).user ∧ True) ∧ True) ∧ (((a.qb.getD x.val qd).path = (a.qb.getD (↑x.val : Int).toNat (Qu.mk [] [] (0 : Int))).path ∧ d48 (a.qb.getD x.val qd).caps = d48 (a.qb.getD (↑x.val : Int).toNat (Qu.mk [] [] (0 : Int))).caps ∧ (a.qb.getD x.val qd).user = (a.qb.getD (↑x.val : Int).toNat (Qu.mk [] [] (0 : Int))).user ∧ True) ∧ True) ∧ True) ∧ ∀ (x_1 : { k : Nat // k ≤ (a.qa.getD x.val qd).caps.length ∧ allI (fun (k : Nat) => sameC ((a.qa.getD x.val qd).caps.getD k cd) ((a.qb.getD x.val qd).caps.getD k cd)) k = true }), branch (decide ((↑x_1.val : Int) < (↑(a.qa.getD x.val qd).caps.length : Int))) (branch (decide ((↑x_1.val : Int) < (↑(a.qa.getD x.val qd).caps.length : Int)) && true && true) (branch (decide ((↑x_1.val : Int) < (↑(a.qb.getD x.val qd).caps.length : Int)) && true && true) (branch (!(((a.qa.getD x.val qd).caps.getD (↑x_1.val : Int).toNat (Cp.mk (0 : Int) (0 : Int))).least == ((a.qb.getD x.val qd).caps.getD (↑x_1.val : Int).toNat (Cp.mk (0 : Int) (0 : Int))).least && (((a.qa.getD x.val qd).caps.getD (↑x_1.val : Int).toNat (Cp.mk (0 : Int) (0 : Int))).most == ((a.qb.getD x.val qd).caps.getD (↑x_1.val : Int).toNat (Cp.mk (0 : Int) (0 : Int))).most && true))) (sameM a = false ∧ True) (∃ (x' : { k : Nat // k ≤ (a.qa.getD x.val qd).caps.length ∧ allI (fun (k : Nat) => sameC ((a.qa.getD x.val qd).caps.getD k cd) ((a.qb.getD x.val qd).caps.getD k cd)) k = true }), (a.qa.getD x.val qd).caps.length - x'.val < (a.qa.getD x.val qd).caps.length - x_1.val ∧ (((0 : Nat) = (0 : Nat) ∧ (0 : Nat) = (0 : Nat)) ∧ ((0 : Nat) = (0 : Nat) ∧ (0 : Nat) = (0 : Nat)) ∧ (↑x.val : Int) = (↑x.val : Int) ∧ ((0 : Nat) = (0 : Nat) ∧ (0 : Nat) = (0 : Nat)) ∧ ((0 : Nat) = (0 : Nat) ∧ (0 : Nat) = (0 : Nat)) ∧ (↑x'.val : Int) = IntKind.i64.wrap ((↑x_1.val : Int) + (1 : Int)) ∧ True) ∧ ((d9 a.la = d9 a.la ∧ d46 a.qa = d46 a.qa ∧ True) ∧ True) ∧ ((d9 a.lb = d9 a.lb ∧ d46 a.qb = d46 a.qb ∧ True) ∧ True) ∧ (((a.qa.getD x.val qd).path = (a.qa.getD x.val qd).path ∧ d48 (a.qa.getD x.val qd).caps = d48 (a.qa.getD x.val qd).caps ∧ (a.qa.getD x.val qd).user = (a.qa.getD x.val qd).user ∧ True) ∧ True) ∧ (((a.qb.getD x.val qd).path = (a.qb.getD x.val qd).path ∧ d48 (a.qb.getD x.val qd).caps = d48 (a.qb.getD x.val qd).caps ∧ (a.qb.getD x.val qd).user = (a.qb.getD x.val qd).user ∧ True) ∧ True) ∧ True)) False) False) (∃ (x' : { i : Nat // i ≤ a.qa.length ∧ allI a.qp i = true ∧ allI a.lp a.la.length = true ∧ P19 a }), a.qa.length - x'.val < a.qa.length - x.val ∧ (((0 : Nat) = (0 : Nat) ∧ (0 : Nat) = (0 : Nat)) ∧ ((0 : Nat) = (0 : Nat) ∧ (0 : Nat)
 = (0 : Nat)) ∧ (↑x'.val : Int) = IntKind.i64.wrap ((↑x.val : Int) + (1 : Int)) ∧ True) ∧ ((d9 a.la = d9 a.la ∧ d46 a.qa = d46 a.qa ∧ True) ∧ True) ∧ ((d9 a.lb = d9 a.lb ∧ d46 a.qb = d46 a.qb ∧ True) ∧ True) ∧ True))))) False) False) (sameM a = true ∧ True))))) := by kernel_rfl

end Go.Proofs.YtaonjbojhikndaaDoor

namespace Go.Proofs.YtaonjbojhikndaaDoor
open Go Go.W
set_option maxRecDepth 100000
/-! ### A line -/
theorem shareR_2 (x : B) : (shareR x).2 = (shareM x).2 := by
  unfold shareR shareM
  cases (cutM x).2.2 <;> rfl
theorem shareR_ok {x : B} (h : (shareR x).2 = true) : shareR x = shareM x := by
  unfold shareR at h ⊢
  cases hc : (cutM x).2.2 with
  | true => rfl
  | false => rw [hc] at h; cases h
theorem capsR_2 : ∀ (b : Bool) (l : List B), (capsR b l).2 = (b && l.all fun x => (shareM x).2)
  | false, [] => rfl
  | true, [] => rfl
  | false, x :: l => rfl
  | true, x :: l => by
    show (capsR (shareR x).2 l).2 = _
    rw [capsR_2 _ l, shareR_2]; rfl
theorem capsR_1 : ∀ (b : Bool) (l : List B), (capsR b l).2 = true → (capsR b l).1 = l.map fun x => (shareM x).1
  | b, [], _ => by cases b <;> rfl
  | false, x :: l, h => by cases h
  | true, x :: l, h => by
    have h : (capsR (shareR x).2 l).2 = true := h
    have h2 : (shareR x).2 = true := by
      rw [capsR_2, Bool.and_eq_true] at h; exact h.1
    show (shareR x).1 :: (capsR (shareR x).2 l).1 = (shareM x).1 :: l.map _
    rw [capsR_1 _ l h, shareR_ok h2]
theorem queueR_ok (w : List B) (n : Nat) : (queueR w (n : Int)).2 = (decide (w.length = 3 + n) && (w.getD 0 [] == wQueue) && oksM w (w.length - 3)) := by
  have ho : oksM w (w.length - 3) = (capsR (numM (w.getD 2 [])).2 (w.drop 3)).2 := by
    rw [capsR_2]
    unfold oksM
    rw [List.take_of_length_le (by simp)]
  have hd : decide ((w.length : Int) = 3 + (n : Int)) = decide (w.length = 3 + n) := by
    rw [decide_eq_decide]; omega
  unfold queueR
  rw [hd, ho]
  cases (decide (w.length = 3 + n) && w.getD 0 [] == wQueue) <;> simp
theorem queueR_q {w : List B} {n : Nat} (h : (queueR w (n : Int)).2 = true) : (queueR w (n : Int)).1 = newQ w := by
  unfold queueR at h ⊢
  cases hc : decide ((w.length : Int) = 3 + (n : Int)) && w.getD 0 [] == wQueue with
  | false => rw [hc] at h; cases h
  | true =>
    rw [hc, cond_true] at h
    rw [cond_true, capsR_1 _ _ h]
    unfold newQ capsM
    rw [List.take_of_length_le (by simp)]
theorem wordsM_nil : wordsM [] = [] := rfl
theorem line_none (r : Rd) {w : List B} (h : w.length = 0) : lineM r w = (r, 0) := by
  unfold lineM; rw [dT h]; rfl
theorem run_trim : ∀ (l : List B) (r : Rd), runM r (trimE l) = runM r l
  | [], r => rfl
  | [p], r => by
    unfold trimE
    cases h : p == [] with
    | false => rfl
    | true =>
      have : p = [] := beq_iff_eq.1 h
      subst this
      show (r, 0) = bif (lineM r (wordsM [])).2 == 0 then runM (lineM r (wordsM [])).1 [] else lineM r (wordsM [])
      rw [wordsM_nil, line_none r rfl]; rfl
  | p :: q :: l, r => by
    show (bif (lineM r (wordsM p)).2 == 0 then runM (lineM r (wordsM p)).1 (trimE (q :: l)) else lineM r (wordsM p)) = bif (lineM r (wordsM p)).2 == 0 then runM (lineM r (wordsM p)).1 (q :: l) else lineM r (wordsM p)
    rw [run_trim (q :: l)]
theorem run_lines (s : B) : runM rd0 (linesR s) = runM rd0 (textM s) := run_trim _ _
theorem trimE_mem : ∀ {l : List B} {p : B}, p ∈ trimE l → p ∈ l
  | [], p, h => h
  | [q], p, h => by
    unfold trimE at h
    cases hq : q == [] with
    | true => rw [hq] at h; cases h
    | false => rw [hq] at h; exact h
  | q :: r :: l, p, h => by
    rcases List.mem_cons.1 (show p ∈ q :: trimE (r :: l) from h) with h | h
    · exact h ▸ List.mem_cons_self
    · exact List.mem_cons_of_mem _ (trimE_mem h)
theorem insF_split : ∀ {qs : List Qu} {q : Qu} {k : Nat}, k ≤ qs.length → (∀ j, j < k → ltQ (qs.getD j qd) q = true) → (k < qs.length → ltQ (qs.getD k qd) q = false) →
    insF qs q = qs.take k ++ q :: qs.drop k ∧ isF qs q = (decide (k < qs.length) && (qs.getD k qd).path == q.path)
  | [], q, k, hk, _, _ => by
    have : k = 0 := by simpa using hk
    subst this
    exact ⟨rfl, rfl⟩
  | y :: ys, q, 0, _, _, h2 => by
    have h2 : ltQ y q = false := h2 (by simp)
    refine ⟨?_, ?_⟩
    · show (bif ltQ y q then _ else q :: y :: ys) = _
      rw [h2]; rfl
    · show (bif ltQ y q then _ else y.path == q.path) = _
      rw [h2, dT (by simp : 0 < (y :: ys).length)]; rfl
  | y :: ys, q, k + 1, hk, h1, h2 => by
    have h0 : ltQ y q = true := h1 0 (by omega)
    have hk' : k ≤ ys.length := by simpa using hk
    obtain ⟨i1, i2⟩ := insF_split (qs := ys) (q := q) (k := k) hk' (fun j hj => h1 (j + 1) (by omega)) (fun hl => h2 (by simp; omega))
    refine ⟨?_, ?_⟩
    · show (bif ltQ y q then y :: insF ys q else _) = _
      rw [h0, i1]; rfl
    · show (bif ltQ y q then isF ys q else _) = _
      rw [h0, cond_true, i2]
      congr 1
      rw [decide_eq_decide]; simp
theorem setRange_nil {α : Type} (xs : List α) (i : Nat) : setRange xs i [] = xs := by
  simp [setRange]
theorem ok18 (s : B) (hp : (SB sm s17).pre s = true) : Owes e24 18 (SB sm s17) A18 (L18 s) (J18 s) g18 s := by
  refine Owes.mk ?_
  rw [v18]
  have hs := sm_le (s := s) hp
  refine br (fun h0 => ?_) (fun h0 => ?_)
  · rw [parse_long h0]; exact ⟨⟨⟨rfl, rfl, trivial⟩, rfl, trivial⟩, trivial⟩
  have h2000 : s.length ≤ 2000 := by
    have : ¬ ((s.length : Int) > 2000) := of_decide_eq_false h0
    omega
  have hN : (linesR s).length ≤ 2001 := by
    have := cutR_le 10 s
    show (cutR 10 s).length ≤ _
    omega
  refine brT ?_ ?_
  · show (Nat.blt 10 256 && sm s) = true
    rw [Bool.and_eq_true]; exact ⟨rfl, hp⟩
  refine ⟨⟨⟨⟨0, rd0, [], false⟩, Nat.zero_le _, by decide, by decide, rfl, Kept.nil, rfl⟩, ⟨⟨rfl, rfl⟩, ⟨rfl, rfl⟩, rfl, rfl, rfl, trivial⟩, ⟨⟨rfl, rfl, trivial⟩, trivial⟩, ⟨⟨rfl, rfl, trivial⟩, trivial⟩, trivial⟩, fun x => ?_⟩
  have hx := x.2
  have xi := hx.i
  have xl := hx.l
  have xq := hx.q
  have xs := hx.seen
  have xk := hx.kept
  have xgo := hx.go
  have xn := xk.len
  have e1 : ((x.1.i : Int)).toNat = x.1.i := by simp
  rw [e1]
  refine br (fun hlt => ?_) (fun hge => ?_)
  · have hlt : x.1.i < (linesR s).length := by simpa using hlt
    have wx : IntKind.i64.wrap ((x.1.i : Int) + 1) = ((x.1.i + 1 : Nat) : Int) := by rw [wrap_id] <;> omega
    rw [wx]
    have hlm : (linesR s).getD x.1.i [] ∈ splitM 10 s := trimE_mem (getD_mem hlt)
    have hll : ((linesR s).getD x.1.i []).length ≤ 2000 := Nat.le_trans (split_mem 10 s _ hlm) h2000
    have hst := run_step x.1.r hlt
    rw [xgo] at hst
    have hwl : (wOf s x.1).length ≤ ((linesR s).getD x.1.i []).length + 1 := words_len _
    have hwm : ∀ p ∈ wOf s x.1, sm p = true := fun p hp => Nat.ble_eq_true_of_le (by have := words_mem hp; omega)
    have okS : ∀ r', lineM x.1.r (wOf s x.1) = (r', 0) → runM r' ((linesR s).drop (x.1.i + 1)) = runM rd0 (linesR s) := fun r' h => by
      rw [hst, show lineM x.1.r (wordsM ((linesR s).getD x.1.i [])) = (r', 0) from h]; rfl
    have okE : ∀ r' e, lineM x.1.r (wOf s x.1) = (r', e) → (e == 0) = false → (e != 0) = true → parseM s = ⟨[], [], e⟩ := fun r' e h he he' => by
      rw [show lineM x.1.r (wordsM ((linesR s).getD x.1.i [])) = (r', e) from h] at hst
      have h2 : (bif e == 0 then runM r' ((linesR s).drop (x.1.i + 1)) else (r', e)) = (r', e) := by rw [he]; rfl
      exact parse_err h0 ((run_lines s).symm.trans (hst.trans h2)) he'
    have errs : ∀ r' e, lineM x.1.r (wOf s x.1) = (r', e) → (e == 0) = false → (e != 0) = true → ((((parseM s).labels = [] ∧ (parseM s).qs = [] ∧ True) ∧ (parseM s).err = e ∧ True) ∧ True) := fun r' e h he he' => by
      rw [okE r' e h he he']; exact ⟨⟨⟨rfl, rfl, trivial⟩, rfl, trivial⟩, trivial⟩
    have hmu : (linesR s).length - (x.1.i + 1) < (linesR s).length - x.1.i := by omega
    refine brT (by simp; omega) (brT (Nat.ble_eq_true_of_le (by show _ + 1 ≤ 1000000; omega)) (br (fun c0 => ?_) (fun c0 => ?_)))
    · have c0 : (wOf s x.1).length = 0 := by
        have : (((wOf s x.1).length : Int) == 0) = true := c0
        simpa using this
      exact ⟨⟨⟨x.1.i + 1, x.1.r, x.1.qs, x.1.tw⟩, hlt, xl, xq, xs, xk, okS _ (line_none _ c0)⟩, hmu, ⟨⟨rfl, rfl⟩, ⟨rfl, rfl⟩, rfl, rfl, rfl, trivial⟩, ⟨⟨rfl, rfl, trivial⟩, trivial⟩, ⟨⟨rfl, rfl, trivial⟩, trivial⟩, trivial⟩
    have c0 : (wOf s x.1).length ≠ 0 := by
      have : (((wOf s x.1).length : Int) == 0) = false := c0
      simpa using this
    have d0 : decide ((wOf s x.1).length = 0) = false := dF c0
    refine br (fun c1 => ?_) (fun c1 => ?_)
    · have c1 : x.1.r.labels = [] := by
        have : x.1.r.labels.length = 0 := by simpa using c1
        exact List.eq_nil_of_length_eq_zero this
      have hseen : x.1.r.seen = false := by rw [xs, c1]; rfl
      refine brT (by simp; exact Nat.pos_of_ne_zero c0) (br (fun c2 => ?_) (fun c2 => ?_))
      · have c2 : ((wOf s x.1).getD 0 [] == wLabels) = false := by
          have : (!((wOf s x.1).getD 0 [] == wLabels)) = true := c2
          simpa using this
        refine errs x.1.r 6 ?_ rfl rfl
        unfold lineM; rw [d0, hseen, c2]; rfl
      have c2 : ((wOf s x.1).getD 0 [] == wLabels) = true := by
        have : (!((wOf s x.1).getD 0 [] == wLabels)) = false := c2
        simpa using this
      refine br (fun c3 => ?_) (fun c3 => ?_)
      · have c3 : ((wOf s x.1).length : Int) > 3 := of_decide_eq_true c3
        refine errs { x.1.r with seen := true } 4 ?_ rfl rfl
        unfold lineM; rw [d0, hseen, c2, dT (by omega : 3 < (wOf s x.1).length)]; rfl
      have c3 : (wOf s x.1).length ≤ 3 := by
        have : ¬ ((wOf s x.1).length : Int) > 3 := of_decide_eq_false c3
        omega
      have hL : lineM x.1.r (wOf s x.1) = ({ x.1.r with seen := true, labels := newL (wOf s x.1) }, 0) := by
        unfold lineM; rw [d0, hseen, c2, dF (by omega : ¬ 3 < (wOf s x.1).length)]; rfl
      have ew : (((wordsM ((linesR s).getD x.1.i [])).length : Int)).toNat = (wordsM ((linesR s).getD x.1.i [])).length := by simp
      rw [ew, List.take_length]
      have hwf : (wordsM ((linesR s).getD x.1.i [])).length = (wOf s x.1).length := rfl
      have hd : (List.drop 1 (wordsM ((linesR s).getD x.1.i []))).length = (wOf s x.1).length - 1 := by
        show (List.drop 1 (wOf s x.1)).length = _
        simp
      have fin : ∀ lab : List B, lab = newL (wOf s x.1) → (∃ (x' : { x : G18 // V18 s x }), (linesR s).length - x'.val.i < (linesR s).length - x.val.i ∧ (((0 : Nat) = 0 ∧ (0 : Nat) = 0) ∧ ((0 : Nat) = 0 ∧ (0 : Nat) = 0) ∧ x'.val.tw = x.val.tw ∧ d9 (linesR s) = d9 (linesR s) ∧ (x'.val.i : Int) = ((x.1.i + 1 : Nat) : Int) ∧ True) ∧ ((nilsD = D.nils ∧ nilsD = D.nils ∧ True) ∧ True) ∧ ((d9 x'.val.r.labels = d9 lab ∧ d46 x'.val.qs = d46 x.val.qs ∧ True) ∧ True) ∧ True) := fun lab hlab => by
        subst hlab
        exact ⟨⟨⟨x.1.i + 1, { x.1.r with seen := true, labels := newL (wOf s x.1) }, x.1.qs, x.1.tw⟩, hlt, by show (([] : B) :: (wOf s x.1).drop 1).length ≤ 3; simp; omega, xq, rfl, xk, okS _ hL⟩, hmu, ⟨⟨rfl, rfl⟩, ⟨rfl, rfl⟩, rfl, rfl, rfl, trivial⟩, ⟨⟨rfl, rfl, trivial⟩, trivial⟩, ⟨⟨rfl, rfl, trivial⟩, trivial⟩, trivial⟩
      refine brT ?_ (br (fun c4 => ?_) (fun c4 => ?_))
      · have : 1 ≤ (wordsM ((linesR s).getD x.1.i [])).length := Nat.pos_of_ne_zero c0
        rw [Bool.and_true, Bool.and_true, Bool.and_eq_true]
        exact ⟨dT (by omega), dT (Int.le_refl _)⟩
      · have c4' := Nat.le_of_ble_eq_true c4
        have hz : List.drop 1 (wordsM ((linesR s).getD x.1.i [])) = [] := List.eq_nil_of_length_eq_zero (by omega)
        refine brT c4 (brT ?_ (fin _ ?_))
        · rw [hz]; rfl
        · rw [hz]
          show [[]] = ([] : B) :: List.drop 1 (wordsM ((linesR s).getD x.1.i []))
          rw [hz]
      · refine brT ?_ (brT ?_ (fin _ ?_))
        · simp only [Bool.and_eq_true]
          exact ⟨⟨⟨⟨Nat.ble_eq_true_of_le (by omega), Nat.ble_eq_true_of_le (by omega)⟩, trivial⟩, trivial⟩, trivial⟩
        · rw [Bool.and_true, Bool.and_true]
          exact Nat.ble_eq_true_of_le (by simp; omega)
        · rw [Nat.zero_add, List.take_of_length_le (by simp; omega), List.drop_zero]; rfl
    have c1 : x.1.r.labels.length ≠ 0 := by simpa using c1
    have hseen : x.1.r.seen = true := by
      rw [xs]
      cases h : x.1.r.labels with
      | nil => rw [h] at c1; simp at c1
      | cons a l => rfl
    refine ⟨?_, fun u => ?_⟩
    · refine br (fun c2 => ?_) (fun c2 => ?_)
      · have c2 : x.1.qs.length = 16 := by have := beq_iff_eq.1 c2; omega
        refine brT (by simp; exact Nat.pos_of_ne_zero c0) (br (fun c3 => ?_) (fun c3 => ?_))
        · have c3 : ((wOf s x.1).getD 0 [] == wQueue) = true := c3
          refine errs x.1.r 4 ?_ rfl rfl
          unfold lineM
          have : ((wOf s x.1).getD 0 [] != wQueue) = false := by unfold bne; rw [c3]; rfl
          rw [d0, hseen, this, dT (by omega : (x.1.r.qs.length : Int) ≥ 16)]; rfl
        · have c3 : ((wOf s x.1).getD 0 [] == wQueue) = false := c3
          exact ⟨⟨0, c0, c1, fun h => by rw [c3] at h; cases h.2⟩, ⟨⟨rfl, rfl⟩, ⟨rfl, rfl⟩, rfl, rfl, rfl, rfl, trivial⟩, ⟨⟨rfl, rfl, trivial⟩, trivial⟩, ⟨⟨rfl, rfl, trivial⟩, trivial⟩, trivial⟩
      · have c2 : ¬ x.1.qs.length = 16 := by have := beq_eq_false_iff_ne.1 c2; omega
        exact ⟨⟨0, c0, c1, fun h => c2 h.1⟩, ⟨⟨rfl, rfl⟩, ⟨rfl, rfl⟩, rfl, rfl, rfl, rfl, trivial⟩, ⟨⟨rfl, rfl, trivial⟩, trivial⟩, ⟨⟨rfl, rfl, trivial⟩, trivial⟩, trivial⟩
    have hm := u.2.m
    have hqok := queueR_ok (wOf s x.1) x.1.r.labels.length
    refine brT ?_ (br (fun c3 => ?_) (fun c3 => ?_))
    · show AW.fine ⟨wOf s x.1, (x.1.r.labels.length : Int)⟩ = true
      simp only [AW.fine, Bool.and_eq_true]
      exact ⟨⟨⟨Nat.ble_eq_true_of_le (by omega), dT (by omega)⟩, dT (by omega)⟩, List.all_eq_true.2 hwm⟩
    · have c3 : (queueR (wOf s x.1) (x.1.r.labels.length : Int)).2 = false := by simpa using c3
      refine errs x.1.r 6 ?_ rfl rfl
      unfold lineM
      rw [d0, hseen]
      cases hq : (wOf s x.1).getD 0 [] == wQueue with
      | false =>
        have : ((wOf s x.1).getD 0 [] != wQueue) = true := by unfold bne; rw [hq]; rfl
        rw [this]; rfl
      | true =>
        have h1 : ((wOf s x.1).getD 0 [] != wQueue) = false := by unfold bne; rw [hq]; rfl
        have h2 : ¬ x.1.qs.length = 16 := fun h => hm ⟨h, hq⟩
        rw [c3, hq, Bool.and_true] at hqok
        rw [h1, dF (by omega : ¬ (x.1.r.qs.length : Int) ≥ 16), ← hqok]; rfl
    have c3 : (queueR (wOf s x.1) (x.1.r.labels.length : Int)).2 = true := by simpa using c3
    have hnew : lineQ s x.1 = newQ (wOf s x.1) := queueR_q c3
    have hL : lineM x.1.r (wOf s x.1) = ({ x.1.r with qs := x.1.r.qs ++ [newQ (wOf s x.1)] }, 0) := by
      rw [c3] at hqok
      have hqok := hqok.symm
      rw [Bool.and_eq_true, Bool.and_eq_true] at hqok
      have hq := hqok.1.2
      have h1 : ((wOf s x.1).getD 0 [] != wQueue) = false := by unfold bne; rw [hq]; rfl
      have h2 : ¬ x.1.qs.length = 16 := fun h => hm ⟨h, hq⟩
      unfold lineM
      rw [d0, show (!x.1.r.seen) = false by rw [hseen]; rfl, h1, dF (by omega : ¬ (x.1.r.qs.length : Int) ≥ 16), hqok.1.1, hqok.2]; rfl
    have h16 : x.1.qs.length < 16 := by
      rw [c3] at hqok
      have hqok := hqok.symm
      rw [Bool.and_eq_true, Bool.and_eq_true] at hqok
      have h2 : ¬ x.1.qs.length = 16 := fun h => hm ⟨h, hqok.1.2⟩
      omega
    refine ⟨⟨⟨⟨0, Nat.zero_le _, fun j h => absurd h (Nat.not_lt_zero _)⟩, ⟨⟨rfl, rfl⟩, ⟨rfl, rfl⟩, rfl, rfl, rfl, ⟨rfl, rfl⟩, rfl, trivial⟩, ⟨⟨rfl, rfl, trivial⟩, trivial⟩, ⟨⟨rfl, rfl, trivial⟩, trivial⟩, ⟨⟨rfl, rfl, rfl, trivial⟩, trivial⟩, trivial⟩, fun k => ?_⟩, fun k => ⟨?_, fun k => ⟨?_, fun k => ?_⟩⟩⟩
    · have k1 := k.2.1
      have k2 := k.2.2
      have e2 : ((k.1 : Int)).toNat = k.1 := by simp
      rw [e2]
      refine br (fun hk => ?_) (fun hk => ?_)
      · have hk : k.1 < x.1.qs.length := by simpa using hk
        have wk : IntKind.i64.wrap ((k.1 : Int) + 1) = ((k.1 + 1 : Nat) : Int) := by rw [wrap_id] <;> omega
        rw [wk]
        refine brT (by simp; omega) (br (fun hb => ?_) (fun hb => ?_))
        · have hb : ltQ (x.1.qs.getD k.1 qd) (lineQ s x.1) = true := hb
          refine ⟨⟨k.1 + 1, hk, fun j hj => ?_⟩, ?_, ⟨⟨rfl, rfl⟩, ⟨rfl, rfl⟩, rfl, rfl, rfl, ⟨rfl, rfl⟩, rfl, trivial⟩, ⟨⟨rfl, rfl, trivial⟩, trivial⟩, ⟨⟨rfl, rfl, trivial⟩, trivial⟩, ⟨⟨rfl, rfl, rfl, trivial⟩, trivial⟩, trivial⟩
          · by_cases h : j = k.1
            · rw [h]; exact hb
            · exact k2 j (by omega)
          · show x.1.qs.length - (k.1 + 1) < _; omega
        · have hb : ltQ (x.1.qs.getD k.1 qd) (lineQ s x.1) = false := hb
          exact ⟨⟨k.1, k1, k2, fun _ => hb⟩, ⟨⟨rfl, rfl⟩, ⟨rfl, rfl⟩, rfl, rfl, rfl, ⟨rfl, rfl⟩, rfl, trivial⟩, ⟨⟨rfl, rfl, trivial⟩, trivial⟩, ⟨⟨rfl, rfl, trivial⟩, trivial⟩, ⟨⟨rfl, rfl, rfl, trivial⟩, trivial⟩, trivial⟩
      · have hk : ¬ k.1 < x.1.qs.length := by simpa using hk
        exact ⟨⟨k.1, k1, k2, fun h => absurd h hk⟩, ⟨⟨rfl, rfl⟩, ⟨rfl, rfl⟩, rfl, rfl, rfl, ⟨rfl, rfl⟩, rfl, trivial⟩, ⟨⟨rfl, rfl, trivial⟩, trivial⟩, ⟨⟨rfl, rfl, trivial⟩, trivial⟩, ⟨⟨rfl, rfl, rfl, trivial⟩, trivial⟩, trivial⟩
    · have k1 := k.2.1
      have e2 : ((k.1 : Int)).toNat = k.1 := by simp
      rw [e2]
      obtain ⟨i1, i2⟩ := insF_split k1 k.2.2.1 k.2.2.2
      refine br (fun ht => ?_) (fun ht => br (fun hk => brT ?_ ?_) (fun hk => ?_))
      · have ht : x.1.tw = true := ht
        exact ⟨⟨k.1, k1, i1⟩, ⟨⟨rfl, rfl⟩, ⟨rfl, rfl⟩, by rw [ht]; rfl, rfl, rfl, ⟨rfl, rfl⟩, rfl, trivial⟩, ⟨⟨rfl, rfl, trivial⟩, trivial⟩, ⟨⟨rfl, rfl, trivial⟩, trivial⟩, ⟨⟨rfl, rfl, rfl, trivial⟩, trivial⟩, trivial⟩
      · rw [Bool.and_true, Bool.and_true]; exact hk
      · have ht : x.1.tw = false := ht
        have hk : k.1 < x.1.qs.length := by simpa using hk
        refine ⟨⟨k.1, k1, i1⟩, ⟨⟨rfl, rfl⟩, ⟨rfl, rfl⟩, ?_, rfl, rfl, ⟨rfl, rfl⟩, rfl, trivial⟩, ⟨⟨rfl, rfl, trivial⟩, trivial⟩, ⟨⟨rfl, rfl, trivial⟩, trivial⟩, ⟨⟨rfl, rfl, rfl, trivial⟩, trivial⟩, trivial⟩
        rw [ht, i2, dT hk, Bool.true_and, Bool.false_or]; rfl
      · have ht : x.1.tw = false := ht
        have hk : ¬ k.1 < x.1.qs.length := by simpa using hk
        refine ⟨⟨k.1, k1, i1⟩, ⟨⟨rfl, rfl⟩, ⟨rfl, rfl⟩, ?_, rfl, rfl, ⟨rfl, rfl⟩, rfl, trivial⟩, ⟨⟨rfl, rfl, trivial⟩, trivial⟩, ⟨⟨rfl, rfl, trivial⟩, trivial⟩, ⟨⟨rfl, rfl, rfl, trivial⟩, trivial⟩, trivial⟩
        rw [ht, i2, dF hk]; rfl
    · have k1 := k.2.1
      have e2 : ((k.1 : Int)).toNat = k.1 := by simp
      have hl : (List.take k.1 x.1.qs).length = k.1 := by simp; omega
      rw [e2]
      refine brT (by simp; omega) (br (fun hk => brT hk ?_) (fun hk => brT ?_ ?_))
      · have hk := Nat.le_of_ble_eq_true hk
        rw [List.drop_zero, hl] at hk
        have hz : k.1 = 0 := by omega
        have ht : List.take k.1 x.1.qs = [] := by rw [hz]; rfl
        refine ⟨⟨k.1, k.2⟩, ⟨⟨rfl, rfl⟩, ⟨rfl, rfl⟩, rfl, rfl, rfl, ⟨rfl, rfl⟩, rfl, ⟨rfl, ?_, Nat.le_refl _⟩, trivial⟩, ⟨⟨rfl, rfl, trivial⟩, trivial⟩, ⟨⟨rfl, rfl, trivial⟩, trivial⟩, ⟨⟨rfl, rfl, rfl, trivial⟩, trivial⟩, ?_, trivial⟩
        · show k.1 = _; rw [List.drop_zero, hl]; omega
        · show o46 (List.take k.1 x.1.qs) = _
          rw [ht]; rfl
      · rw [List.drop_zero, hl]
        simp only [Bool.and_eq_true]
        exact ⟨⟨⟨⟨Nat.ble_eq_true_of_le (by omega), Nat.ble_eq_true_of_le (by omega)⟩, trivial⟩, trivial⟩, trivial⟩
      · refine ⟨⟨k.1, k.2⟩, ⟨⟨rfl, rfl⟩, ⟨rfl, rfl⟩, rfl, rfl, rfl, ⟨rfl, rfl⟩, rfl, ⟨rfl, ?_, Nat.zero_le _⟩, trivial⟩, ⟨⟨rfl, rfl, trivial⟩, trivial⟩, ⟨⟨rfl, rfl, trivial⟩, trivial⟩, ⟨⟨rfl, rfl, rfl, trivial⟩, trivial⟩, ?_, trivial⟩
        · show k.1 = _; rw [List.drop_zero, hl]; omega
        · rfl
    · have k1 := k.2.1
      have kin := k.2.2
      have e2 : ((k.1 : Int)).toNat = k.1 := by simp
      have e3 : ((x.1.qs.length : Int)).toNat = x.1.qs.length := by simp
      have hl : (List.take k.1 x.1.qs).length = k.1 := by simp; omega
      have hd : (List.drop k.1 x.1.qs).length = x.1.qs.length - k.1 := by simp
      have hg : List.take k.1 (List.drop 0 (List.take k.1 x.1.qs)) ++ [lineQ s x.1] = List.take k.1 x.1.qs ++ [lineQ s x.1] := by
        rw [List.drop_zero, List.take_take, Nat.min_self]
      rw [e2, e3, List.take_length, hg, hd]
      have hgl : (List.take k.1 x.1.qs ++ [lineQ s x.1]).length = k.1 + 1 := by simp; omega
      have fin : ∀ ys : List Qu, ys = insF x.1.qs (lineQ s x.1) → (∃ (x' : { x : G18 // V18 s x }), (linesR s).length - x'.val.i < (linesR s).length - x.val.i ∧ (((0 : Nat) = 0 ∧ (0 : Nat) = 0) ∧ ((0 : Nat) = 0 ∧ (0 : Nat) = 0) ∧ x'.val.tw = (x.val.tw || isF x.1.qs (lineQ s x.1)) ∧ d9 (linesR s) = d9 (linesR s) ∧ (x'.val.i : Int) = ((x.1.i + 1 : Nat) : Int) ∧ True) ∧ ((nilsD = D.nils ∧ nilsD = D.nils ∧ True) ∧ True) ∧ ((d9 x'.val.r.labels = d9 x.1.r.labels ∧ d46 x'.val.qs = d46 ys ∧ True) ∧ True) ∧ True) := fun ys hys => by
        subst hys
        refine ⟨⟨⟨x.1.i + 1, { x.1.r with qs := x.1.r.qs ++ [newQ (wOf s x.1)] }, insF x.1.qs (lineQ s x.1), x.1.tw || isF x.1.qs (lineQ s x.1)⟩, hlt, xl, by show (x.1.r.qs ++ [_]).length ≤ 16; simp; omega, xs, ?_, okS _ hL⟩, hmu, ⟨⟨rfl, rfl⟩, ⟨rfl, rfl⟩, rfl, rfl, rfl, trivial⟩, ⟨⟨rfl, rfl, trivial⟩, trivial⟩, ⟨⟨rfl, rfl, trivial⟩, trivial⟩, trivial⟩
        have := xk.add (lineQ s x.1)
        rw [hnew] at this ⊢
        exact this
      refine brT (by rw [hl]; exact beq_z _) (brT (by have := grow_b (n := k.1) (k := 48) (by decide) (by omega); rw [hl]; exact this) (brT (by simp; omega) (br (fun hk => brT ?_ (brT ?_ (fin _ ?_))) (fun hk => brT ?_ (brT ?_ (brT ?_ (fin _ ?_)))))))
      · have hk := Nat.le_of_ble_eq_true hk
        rw [hgl]; exact Nat.ble_eq_true_of_le (by omega)
      · have hk := Nat.le_of_ble_eq_true hk
        have hz : List.drop k.1 x.1.qs = [] := List.eq_nil_of_length_eq_zero (by omega)
        rw [hz, setRange_nil, hgl, Bool.and_true, Bool.and_true]; exact Nat.ble_eq_true_of_le (by omega)
      · have hk := Nat.le_of_ble_eq_true hk
        have hz : List.drop k.1 x.1.qs = [] := List.eq_nil_of_length_eq_zero (by omega)
        refine Eq.trans ?_ kin.symm
        rw [hz, setRange_nil, List.take_of_length_le (by rw [hgl]; omega), List.drop_zero]
      · rw [hgl, Nat.zero_add]; exact Nat.beq_refl _
      · rw [hgl]
        simp only [Bool.and_eq_true]
        exact ⟨⟨⟨⟨Nat.ble_eq_true_of_le (by omega), Nat.ble_eq_true_of_le (by omega)⟩, trivial⟩, trivial⟩, Nat.ble_eq_true_of_le (by omega)⟩
      · rw [List.drop_zero, List.take_of_length_le (Nat.le_of_eq hgl), Bool.and_true, Bool.and_true]
        exact Nat.ble_eq_true_of_le (by simp; omega)
      · refine Eq.trans ?_ kin.symm
        rw [List.drop_zero, List.drop_zero, List.take_of_length_le (Nat.le_of_eq hgl), List.take_of_length_le (by simp; omega), List.append_assoc]; rfl
  · have hge : ¬ x.1.i < (linesR s).length := by simpa using hge
    have hrun : runM rd0 (textM s) = (x.1.r, 0) := by
      rw [← run_lines, ← xgo, List.drop_eq_nil_of_le (by omega)]; rfl
    refine br (fun c1 => ?_) (fun c1 => ?_)
    · have c1 : x.1.r.labels = [] := by
        have : x.1.r.labels.length = 0 := by simpa using c1
        exact List.eq_nil_of_length_eq_zero this
      have hseen : x.1.r.seen = false := by rw [xs, c1]; rfl
      rw [parse_unseen h0 hrun hseen]; exact ⟨⟨⟨rfl, rfl, trivial⟩, rfl, trivial⟩, trivial⟩
    have c1 : x.1.r.labels.length ≠ 0 := by simpa using c1
    have hseen : x.1.r.seen = true := by
      rw [xs]
      cases h : x.1.r.labels with
      | nil => rw [h] at c1; simp at c1
      | cons a l => rfl
    refine br (fun ht => ?_) (fun ht => ?_)
    · have ht : x.1.tw = true := ht
      rw [ht] at xk
      rw [parse_dup h0 hrun hseen xk.end_twice]; exact ⟨⟨⟨rfl, rfl, trivial⟩, rfl, trivial⟩, trivial⟩
    · have ht : x.1.tw = false := ht
      rw [ht] at xk
      obtain ⟨o1, o2⟩ := xk.end_once
      rw [parse_ok h0 hrun hseen o2]
      refine ⟨⟨⟨rfl, ?_, trivial⟩, rfl, trivial⟩, trivial⟩
      show d46 (orderM x.1.r.qs.length x.1.r.qs) = _
      rw [o1]
theorem k18 : SpecOk Tryd.prog 18 (SB sm s17) := spec_loop e24_sound (by kernel_rfl) (fun _ => A18) L18 J18 (fun _ => g18) ok18
theorem a18 : RowOK 18 ((SB sm s17).con (MB sm s17)) := Spec.con_ok k18 _ (fun _ => Nat.le_of_ble_eq_true rfl)
end Go.Proofs.YtaonjbojhikndaaDoor

namespace Go.Proofs.YtaonjbojhikndaaDoor
open Go Go.W
set_option maxRecDepth 100000
theorem allI_not {p : Nat → Bool} : ∀ {n i : Nat}, i < n → p i = false → allI p n = false
  | 0, i, h, _ => by omega
  | n + 1, i, h, hp => by
    show (allI p n && p n) = false
    by_cases hi : i = n
    · subst hi; rw [hp, Bool.and_false]
    · rw [allI_not (n := n) (i := i) (by omega) hp]; rfl
theorem allI_all {p : Nat → Bool} : ∀ {n : Nat}, (∀ i, i < n → p i = true) → allI p n = true
  | 0, _ => rfl
  | n + 1, h => by
    show (allI p n && p n) = true
    rw [allI_all (n := n) (fun i hi => h i (by omega)), h n (by omega)]; rfl
theorem allI_get {p : Nat → Bool} {n i : Nat} (h : allI p n = true) (hi : i < n) : p i = true := by
  cases hp : p i with
  | true => rfl
  | false => rw [allI_not hi hp] at h; cases h
theorem dTT {p : Prop} [Decidable p] (h : p) : (decide p && true && true) = true := by rw [Bool.and_true, Bool.and_true]; exact dT h
theorem ok19 (a : ASm) (hp : S19.pre a = true) : OwesN e0 19 S19 (fun _ => []) (L19 a) noJ (G19.mk 0) a := by
  refine OwesN.mk ?_
  rw [v19]
  have hp : ASm.fine a = true := hp
  simp only [ASm.fine, Bool.and_eq_true] at hp
  have h1 := small_le hp.1.1
  have h2 := small_le hp.1.2
  have h3 : ∀ i, i < a.qa.length → (a.qa.getD i qd).caps.length ≤ 1000000 := fun i hi => small_le (List.all_eq_true.1 hp.2 _ (by simp [List.getD, hi]))
  have no : ∀ b : Bool, (sameM a = b) → sameM a = b ∧ True := fun b h => ⟨h, trivial⟩
  refine br (fun hl => no _ ?_) (fun hl => br (fun hq => no _ ?_) (fun hq => ?_))
  · have hl : ¬ a.la.length = a.lb.length := by
      have := bne_iff_ne.1 hl
      omega
    unfold sameM; rw [dF hl]; rfl
  · have hq : ¬ a.qa.length = a.qb.length := by
      have := bne_iff_ne.1 hq
      omega
    unfold sameM; rw [dF hq]; cases decide (a.la.length = a.lb.length) <;> rfl
  have hl : a.la.length = a.lb.length := by
    have : ¬ ((a.la.length : Int) ≠ (a.lb.length : Int)) := fun h => by rw [bne_iff_ne.2 h] at hl; cases hl
    omega
  have hq : a.qa.length = a.qb.length := by
    have : ¬ ((a.qa.length : Int) ≠ (a.qb.length : Int)) := fun h => by rw [bne_iff_ne.2 h] at hq; cases hq
    omega
  have hP : P19 a := ⟨hl, hq⟩
  have noL' : ∀ i, i < a.la.length → a.lp i = false → sameM a = false := fun i hi h => by
    unfold sameM; rw [allI_not hi h]
    cases decide (a.la.length = a.lb.length) <;> cases decide (a.qa.length = a.qb.length) <;> rfl
  have noQ : ∀ i, i < a.qa.length → a.qp i = false → sameM a = false := fun i hi h => by
    unfold sameM; rw [allI_not hi h, Bool.and_false, Bool.and_false, Bool.and_false]
  refine ⟨⟨⟨0, Nat.zero_le _, rfl, hP⟩, ⟨⟨rfl, rfl⟩, ⟨rfl, rfl⟩, rfl, trivial⟩, ⟨⟨rfl, rfl, trivial⟩, trivial⟩, ⟨⟨rfl, rfl, trivial⟩, trivial⟩, trivial⟩, fun x => ?_⟩
  have xi := x.2.1
  have xa := x.2.2.1
  have e1 : ((x.1 : Int)).toNat = x.1 := by simp
  have w1 : IntKind.i64.wrap ((x.1 : Int) + 1) = ((x.1 + 1 : Nat) : Int) := by rw [wrap_id] <;> omega
  rw [e1, w1]
  refine br (fun hlt => ?_) (fun hge => ?_)
  · have hlt : x.1 < a.la.length := by simpa using hlt
    refine brT (by simp; omega) (brT (by simp; omega) (br (fun hb => no _ (noL' x.1 hlt ?_)) (fun hb => ?_)))
    · have hb : (!(a.la.getD x.1 [] == a.lb.getD x.1 [])) = true := hb
      unfold ASm.lp; simpa using hb
    · have hb : (!(a.la.getD x.1 [] == a.lb.getD x.1 [])) = false := hb
      have hb : a.lp x.1 = true := by unfold ASm.lp; simpa using hb
      refine ⟨⟨x.1 + 1, hlt, by show (allI a.lp x.1 && a.lp x.1) = true; rw [xa, hb]; rfl, hP⟩, ?_, ⟨⟨rfl, rfl⟩, ⟨rfl, rfl⟩, rfl, trivial⟩, ⟨⟨rfl, rfl, trivial⟩, trivial⟩, ⟨⟨rfl, rfl, trivial⟩, trivial⟩, trivial⟩
      show a.la.length - (x.1 + 1) < _; omega
  have hge : ¬ x.1 < a.la.length := by simpa using hge
  have hx : x.1 = a.la.length := by omega
  rw [hx] at xa
  refine ⟨⟨⟨0, Nat.zero_le _, rfl, xa, hP⟩, ⟨⟨rfl, rfl⟩, ⟨rfl, rfl⟩, rfl, trivial⟩, ⟨⟨rfl, rfl, trivial⟩, trivial⟩, ⟨⟨rfl, rfl, trivial⟩, trivial⟩, trivial⟩, fun y => ?_⟩
  have yi := y.2.1
  have ya := y.2.2.1
  have e2 : ((y.1 : Int)).toNat = y.1 := by simp
  have w2 : IntKind.i64.wrap ((y.1 : Int) + 1) = ((y.1 + 1 : Nat) : Int) := by rw [wrap_id] <;> omega
  rw [e2, w2]
  refine br (fun hlt => ?_) (fun hge => ?_)
  · have hlt : y.1 < a.qa.length := by simpa using hlt
    have h3 := h3 y.1 hlt
    have bad : sameQ (a.qa.getD y.1 qd) (a.qb.getD y.1 qd) = false → sameM a = false := fun h => noQ y.1 hlt h
    refine brT (by simp; omega) (brT (by simp; omega) (br (fun b1 => no _ (bad ?_)) (fun b1 => br (fun b2 => no _ (bad ?_)) (fun b2 => br (fun b3 => no _ (bad ?_)) (fun b3 => ?_)))))
    · have b1 : (!((a.qa.getD y.1 qd).path == (a.qb.getD y.1 qd).path)) = true := b1
      have b1 : ((a.qa.getD y.1 qd).path == (a.qb.getD y.1 qd).path) = false := by simpa using b1
      unfold sameQ; rw [b1]; rfl
    · have b2 : ((a.qa.getD y.1 qd).user != (a.qb.getD y.1 qd).user) = true := b2
      have b2 : ((a.qa.getD y.1 qd).user == (a.qb.getD y.1 qd).user) = false := by simpa [bne] using b2
      unfold sameQ; rw [b2, Bool.false_and, Bool.and_false]
    · have b3 : (((a.qa.getD y.1 qd).caps.length : Int) != ((a.qb.getD y.1 qd).caps.length : Int)) = true := b3
      have b3 : ¬ (a.qa.getD y.1 qd).caps.length = (a.qb.getD y.1 qd).caps.length := by
        have := bne_iff_ne.1 b3
        omega
      unfold sameQ; rw [dF b3, Bool.false_and, Bool.and_false, Bool.and_false]
    have b1 : ((a.qa.getD y.1 qd).path == (a.qb.getD y.1 qd).path) = true := by
      have b1 : (!((a.qa.getD y.1 qd).path == (a.qb.getD y.1 qd).path)) = false := b1
      simpa using b1
    have b2 : ((a.qa.getD y.1 qd).user == (a.qb.getD y.1 qd).user) = true := by
      have b2 : ((a.qa.getD y.1 qd).user != (a.qb.getD y.1 qd).user) = false := b2
      simpa [bne] using b2
    have b3 : (a.qa.getD y.1 qd).caps.length = (a.qb.getD y.1 qd).caps.length := by
      have b3 : (((a.qa.getD y.1 qd).caps.length : Int) != ((a.qb.getD y.1 qd).caps.length : Int)) = false := b3
      have : ¬ (((a.qa.getD y.1 qd).caps.length : Int) ≠ ((a.qb.getD y.1 qd).caps.length : Int)) := fun h => by rw [bne_iff_ne.2 h] at b3; cases b3
      omega
    refine ⟨⟨⟨0, Nat.zero_le _, rfl⟩, ⟨⟨rfl, rfl⟩, ⟨rfl, rfl⟩, rfl, ⟨rfl, rfl⟩, ⟨rfl, rfl⟩, rfl, trivial⟩, ⟨⟨rfl, rfl, trivial⟩, trivial⟩, ⟨⟨rfl, rfl, trivial⟩, trivial⟩, ⟨⟨rfl, rfl, rfl, trivial⟩, trivial⟩, ⟨⟨rfl, rfl, rfl, trivial⟩, trivial⟩, trivial⟩, fun z => ?_⟩
    have zi := z.2.1
    have za := z.2.2
    have e3 : ((z.1 : Int)).toNat = z.1 := by simp
    have w3 : IntKind.i64.wrap ((z.1 : Int) + 1) = ((z.1 + 1 : Nat) : Int) := by rw [wrap_id] <;> omega
    rw [e3, w3]
    refine br (fun hl3 => ?_) (fun hg3 => ?_)
    · have hl3 : z.1 < (a.qa.getD y.1 qd).caps.length := by simpa using hl3
      refine brT (dTT (by omega)) (brT (dTT (by omega)) (br (fun hb => no _ (bad ?_)) (fun hb => ?_)))
      · have hb : (!(((a.qa.getD y.1 qd).caps.getD z.1 cd).least == ((a.qb.getD y.1 qd).caps.getD z.1 cd).least && (((a.qa.getD y.1 qd).caps.getD z.1 cd).most == ((a.qb.getD y.1 qd).caps.getD z.1 cd).most && true))) = true := hb
        have hb : sameC ((a.qa.getD y.1 qd).caps.getD z.1 cd) ((a.qb.getD y.1 qd).caps.getD z.1 cd) = false := by
          rw [Bool.and_true] at hb
          unfold sameC; exact Eq.mp (Bool.not_eq_true' _) hb
        unfold sameQ
        rw [allI_not (p := fun k => sameC ((a.qa.getD y.1 qd).caps.getD k cd) ((a.qb.getD y.1 qd).caps.getD k cd)) hl3 hb, Bool.and_false, Bool.and_false, Bool.and_false]
      · have hb : (!(((a.qa.getD y.1 qd).caps.getD z.1 cd).least == ((a.qb.getD y.1 qd).caps.getD z.1 cd).least && (((a.qa.getD y.1 qd).caps.getD z.1 cd).most == ((a.qb.getD y.1 qd).caps.getD z.1 cd).most && true))) = false := hb
        have hb : sameC ((a.qa.getD y.1 qd).caps.getD z.1 cd) ((a.qb.getD y.1 qd).caps.getD z.1 cd) = true := by
          rw [Bool.and_true] at hb
          unfold sameC; exact Eq.mp (Bool.not_eq_false' _) hb
        refine ⟨⟨z.1 + 1, hl3, ?_⟩, ?_, ⟨⟨rfl, rfl⟩, ⟨rfl, rfl⟩, rfl, ⟨rfl, rfl⟩, ⟨rfl, rfl⟩, rfl, trivial⟩, ⟨⟨rfl, rfl, trivial⟩, trivial⟩, ⟨⟨rfl, rfl, trivial⟩, trivial⟩, ⟨⟨rfl, rfl, rfl, trivial⟩, trivial⟩, ⟨⟨rfl, rfl, rfl, trivial⟩, trivial⟩, trivial⟩
        · show (allI _ z.1 && sameC ((a.qa.getD y.1 qd).caps.getD z.1 cd) ((a.qb.getD y.1 qd).caps.getD z.1 cd)) = true
          rw [za, hb]; rfl
        · show (a.qa.getD y.1 qd).caps.length - (z.1 + 1) < _; omega
    · have hg3 : ¬ z.1 < (a.qa.getD y.1 qd).caps.length := by simpa using hg3
      have hz : z.1 = (a.qa.getD y.1 qd).caps.length := by omega
      rw [hz] at za
      have hqp : a.qp y.1 = true := by
        unfold ASm.qp sameQ
        rw [b1, b2, dT b3, za]; rfl
      refine ⟨⟨y.1 + 1, hlt, by show (allI a.qp y.1 && a.qp y.1) = true; rw [ya, hqp]; rfl, xa, hP⟩, ?_, ⟨⟨rfl, rfl⟩, ⟨rfl, rfl⟩, rfl, trivial⟩, ⟨⟨rfl, rfl, trivial⟩, trivial⟩, ⟨⟨rfl, rfl, trivial⟩, trivial⟩, trivial⟩
      show a.qa.length - (y.1 + 1) < _; omega
  · have hge : ¬ y.1 < a.qa.length := by simpa using hge
    have hy : y.1 = a.qa.length := by omega
    rw [hy] at ya
    refine ⟨?_, trivial⟩
    unfold sameM
    rw [dT hl, dT hq, xa, ya]; rfl
theorem k19 : SpecOk Tryd.prog 19 S19 := spec_loopN e0_sound (by kernel_rfl) (fun _ _ => []) L19 (fun _ => noJ) (fun _ => G19.mk 0) ok19
theorem a19 : RowOK 19 (S19.con M19) := Spec.con_ok k19 M19 (fun _ => Nat.le_of_ble_eq_true rfl)
/-! ### few -/
structure AR where
  l : Int
  qs : List Rq
def rqd : Rq := ⟨[], [], 0⟩
def fewQ (r : Rq) : Bool := decide (r.names.length ≤ 8) && decide (r.caps.length ≤ 8)
def AR.fp (a : AR) (i : Nat) : Bool := fewQ (a.qs.getD i rqd)
def fewM (a : AR) : Bool := decide (a.qs.length ≤ 20) && allI a.fp a.qs.length
def S12 : Go.W.Spec regK.T := ⟨AR, fun a => [.agg [ki a.l, .d (.sl 58 a.qs)]], fun _ => [], fun _ => true, fun a => .ret (kb (fewM a), [])⟩
def MR (pre : AR → Bool) (out : AR → QO) : Meet (⟨AR, fun a => [.agg [ki a.l, .d (.sl 58 a.qs)]], fun _ => [], pre, out⟩ : Go.W.Spec regK.T) where
  find args _ := match args with | [.agg [.d (.int .i64 l), .d (.sl 58 qs)]] => some (⟨l, qs⟩, []) | _ => none
  ok args g a ρ h := by
    split at h
    · cases h
      exact ⟨⟨⟨cov_i' _ _, rfl, trivial⟩, trivial⟩, rfl, fun j o' hj => by simp at hj⟩
    · cases h
def L12 (a : AR) (_ : Unit) (k : Nat) (_ : St regK.T) : Option (LoopI regK.T Unit) := match Nat.beq k 2 with
  | true => some ⟨{ i : Nat // i ≤ a.qs.length ∧ i ≤ 20 ∧ allI a.fp i = true }, fun i => ⟨[(1, .ptr 0 0 0), (3, ki (i.1 : Nat))], [(0, .rows 2 [[ki a.l, .d (.sl 58 a.qs)]])], 1⟩, fun i => a.qs.length - i.1, fun _ => ()⟩
  | false => none
/-! ### put -/
structure AP where
  l : List Qu
  q : Qu
  n : Nat
def AP.fine (a : AP) : Bool := Nat.beq a.n a.q.caps.length && small a.l.length && small a.q.caps.length
def putM (l : List Qu) (q : Qu) : List Qu := bif isF l q then l else insF l q
def S23 : Go.W.Spec regK.T := ⟨AP, fun a => [.d (.sl 46 a.l), .agg [ks a.q.path, .sl 0 0 a.n (.least 0), ki a.q.user]], fun a => [.trows 48 a.q.caps], AP.fine, fun a => .ret (.d (.sl 46 (putM a.l a.q)), [none])⟩
def M23 : Meet S23 where
  find args g := match args with
    | [.d x, .agg [.d (.str p), .sl i 0 n _, .d (.int .i64 u)]] => (match qD x, g i with
      | some l, some (.trows 48 cs) => some (⟨l, ⟨p, cs, u⟩, n⟩, [i])
      | _, _ => none)
    | _ => none
  ok args g a ρ h := by
    split at h
    · split at h
      · rename_i hq hg
        cases h
        refine ⟨⟨qD_cov hq, ⟨cov_s _ _, (must_iff _ _).2 ⟨Nat.beq_refl _, rfl, rfl, cap0 _⟩, cov_i' _ _, trivial⟩, trivial⟩, rfl, fun j o' hj => ?_⟩
        match j, hj with
        | 0, hj =>
          simp only [S23, List.getElem?_cons_zero, Option.some.injEq] at hj; subst hj
          exact ⟨_, _, rfl, hg, rfl⟩
        | j + 1, hj => simp [S23] at hj
      · cases h
    · cases h
structure AP.Lt (a : AP) (k : Nat) : Prop where
  le : k ≤ a.l.length
  lt : ∀ j, j < k → ltQ (a.l.getD j qd) a.q = true
def rowP (a : AP) : OK := .rows 3 [[ks a.q.path, .d (.sl 48 a.q.caps), ki a.q.user]]
def L23 (a : AP) (_ : Unit) (k : Nat) (_ : St regK.T) : Option (LoopI regK.T Unit) := match Nat.beq k 2 with
  | true => some ⟨{ k : Nat // a.Lt k }, fun k => ⟨[(0, .d (.sl 46 a.l)), (3, .ptr 1 0 0), (5, ki (k.1 : Nat))], [(1, .rows 3 [[ks a.q.path, .d (.sl 48 a.q.caps), ki a.q.user]])], 2⟩, fun k => a.l.length - k.1, fun _ => ()⟩
  | false => none
def J23 (a : AP) (_ : Unit) (k : Nat) : Option (LoopI regK.T Unit) := match Nat.beq k 4 with
  | true => some ⟨{ k : Nat // a.Lt k ∧ (k < a.l.length → ltQ (a.l.getD k qd) a.q = false) }, fun k => ⟨[(0, .d (.sl 46 a.l)), (3, .ptr 1 0 0), (5, ki (k.1 : Nat))], [(1, .rows 3 [[ks a.q.path, .d (.sl 48 a.q.caps), ki a.q.user]])], 2⟩, fun _ => 0, fun _ => ()⟩
  | false => (match Nat.beq k 6 with
    | true => some ⟨{ k : Nat // k ≤ a.l.length ∧ putM a.l a.q = a.l.take k ++ a.q :: a.l.drop k }, fun k => ⟨[(0, .d (.sl 46 a.l)), (3, .ptr 1 0 0), (5, ki (k.1 : Nat))], [(1, .rows 3 [[ks a.q.path, .d (.sl 48 a.q.caps), ki a.q.user]])], 2⟩, fun _ => 0, fun _ => ()⟩
    | false => (match Nat.beq k 7 with
      | true => some ⟨{ k : Nat // k ≤ a.l.length ∧ putM a.l a.q = a.l.take k ++ a.q :: a.l.drop k }, fun k => ⟨[(0, .d (.sl 46 a.l)), (3, .ptr 1 0 0), (5, ki (k.1 : Nat)), (6, .sl 2 0 k.1 (.least 0))], [(1, .rows 3 [[ks a.q.path, .d (.sl 48 a.q.caps), ki a.q.user]]), (2, .trows 46 (a.l.take k.1))], 3⟩, fun _ => 0, fun _ => ()⟩
      | false => (match Nat.beq k 8 with
        | true => some ⟨{ k : Nat // k ≤ a.l.length ∧ putM a.l a.q = a.l.take k ++ a.q :: a.l.drop k }, fun k => ⟨[(0, .d (.sl 46 a.l)), (5, ki (k.1 : Nat)), (6, .sl 1 0 (k.1 + 1) (.least 0))], [(1, .trows 46 (a.l.take k.1 ++ [a.q]))], 2⟩, fun _ => 0, fun _ => ()⟩
        | false => none)))
def A23 (k : Nat) : List Tgt := (lookN [(0, [.fcell 1 0 1])] k).getD []
/-! ### mix -/
def K25 : Con regK.T := fun f => lookN [(15, S15.con M15)] f
theorem K25_ok : ConOk Tryd.prog K25 := con_cons a15 con_nil
noncomputable def e25 : Hd regK.T := hdT regK Tryd.prog K25 (fun _ => false) 1000 5
theorem e25_sound : HdSound Tryd.prog e25 := hdT_sound mixed hno K25_ok _ _ _
def someM : List B := [[108, 97, 98, 101, 108, 115], [113, 117, 101, 117, 101], [32], [32, 32], [10], [114, 111, 111, 116], [114, 111, 111, 116, 46, 97], [49, 48, 48, 48, 48], [48], [48, 49], [53, 47, 49, 48], [49, 48, 48, 48, 48, 47, 49, 48, 48, 48, 48], [47], [49, 47], [49, 50, 51, 52, 53, 54, 55, 56, 47, 49], [103, 112, 117], [120], [45, 49, 47, 50]]
def mixM (ns : List Int) : Nat → B
  | 0 => []
  | k + 1 => mixM ns k ++ someM.getD (wi (ns.getD k 0) 18).toNat []
def mixN (ns : List Int) : B := mixM ns (min ns.length 60)
def S16 : Go.W.Spec regK.T := ⟨List Int, fun a => [.d (.sl 3 a)], fun _ => [], fun _ => true, fun a => .ret (ks (mixN a), [])⟩
def M16 : Meet S16 where
  find args _ := match args with | [.d (.sl 3 xs)] => some (xs, []) | _ => none
  ok args g a ρ h := by
    split at h
    · cases h
      exact ⟨⟨rfl, trivial⟩, rfl, fun j o' hj => by simp [S16] at hj⟩
    · cases h
def L16 (ns : List Int) (ss : List B) (_ : Unit) (k : Nat) (_ : St regK.T) : Option (LoopI regK.T Unit) := match Nat.beq k 4 with
  | true => some ⟨{ i : Nat // i ≤ ns.length ∧ i ≤ 60 }, fun i => ⟨[(0, .d (.sl 3 ns)), (3, .sl 0 0 18 (.least 0)), (4, ks (mixM ns i.1)), (5, ki (i.1 : Nat))], [(0, .trows 9 ss)], 1⟩, fun i => ns.length - i.1, fun _ => ()⟩
  | false => none
/-! ### Decimal -/
def digB (n : Int) : B := [UInt8.ofNat (48 + n.toNat)]
def decN : Nat → Int → B
  | 0, n => digB n
  | k + 1, n => bif decide (10 ≤ n) then decN k (n.tdiv 10) ++ decN k (n.tmod 10) else digB n
def SI (pre : Int → Bool) (out : Int → QO) : Go.W.Spec regK.T := ⟨Int, fun n => [ki n], fun _ => [], pre, out⟩
def MI (pre : Int → Bool) (out : Int → QO) : Meet (SI pre out) where
  find args _ := match args with | [.d (.int .i64 n)] => some (n, []) | _ => none
  ok args g a ρ h := by
    split at h
    · cases h
      exact ⟨⟨cov_i' _ _, trivial⟩, rfl, fun j o' hj => by simp [SI] at hj⟩
    · cases h
def p22 (k : Nat) (n : Int) : Bool := decide (0 ≤ n) && decide (n < 10 ^ (k + 1))
def q22 (k : Nat) (n : Int) : QO := .ret (ks (decN k n), [])
def K26 (k : Nat) : Con regK.T := fun f => lookN [(22, (SI (p22 k) (q22 k)).con (MI (p22 k) (q22 k)))] f
noncomputable def e26 (k : Nat) : Hd regK.T := hdT regK Tryd.prog (K26 k) (fun _ => false) 1000 5
def K27 : Con regK.T := fun f => lookN [(22, uBad)] f
theorem K27_ok : ConOk Tryd.prog K27 := con_cons (aBad 22) con_nil
noncomputable def e27 : Hd regK.T := hdT regK Tryd.prog K27 (fun _ => false) 1000 5
theorem e27_sound : HdSound Tryd.prog e27 := hdT_sound mixed hno K27_ok _ _ _
def J22 (_ : Nat) (k : Nat) : Option (LoopI regK.T Nat) := match Nat.beq k 7 with
  | true => some ⟨{ _c : Nat // False }, fun _ => ⟨[(0, ki 5)], [], 0⟩, fun _ => 0, fun _ => 0⟩
  | false => none
end Go.Proofs.YtaonjbojhikndaaDoor
