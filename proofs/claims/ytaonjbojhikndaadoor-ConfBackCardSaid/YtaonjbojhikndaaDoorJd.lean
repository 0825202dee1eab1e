/- few, put, mix, Decimal; Make, Text, ConfParses: forms. No conditions. -/
import Derived.Test.YtaonjbojhikndaaDoorJc
namespace Go.Proofs.YtaonjbojhikndaaDoor
open Go Go.W Go.Proofs
set_option maxRecDepth 100000
theorem v12 (a : AR) : (OwesD e0 (12 : Nat) S12 (fun (_ : Nat) => []) (L12 a) noJ () a) = ( (∃ (x : { i : Nat // i ≤ a.qs.length ∧ i ≤ (20 : Nat) ∧ allI a.fp i = true }), (((0 : Nat) = (0 : Nat) ∧ (0 : Nat) = (0 : Nat)) ∧ (↑x.val : Int) = (0 : Int) ∧ True) ∧ ((a.l = a.l ∧ d58 a.qs = d58 a.qs ∧ True) ∧ True) ∧ True) ∧ ∀ (x : { i : Nat // i ≤ a.qs.length ∧ i ≤ (20 : Nat) ∧ allI a.fp i = true }), branch (decide ((↑x.val : Int) < (↑a.qs.length : Int))) (branch (decide ((↑x.val : Int) < (20 : Int))) (branch (decide ((↑x.val : Int) < (↑a.qs.length : Int)) && true && true) (branch (decide ((↑(a.qs.getD (↑x.val : Int).toNat (Rq.mk [] [] (0 : Int))).names.length : Int) > (8 : Int))) (fewM a = false ∧ True) (branch (decide ((↑x.val : Int) < (↑a.qs.length : Int)) && true && true) (branch (decide ((↑(a.qs.getD (↑x.val : Int).toNat (Rq.mk [] [] (0 : Int))).caps.length : Int) > (8 : Int))) (fewM a = false ∧ True) (∃ (x' : { i : Nat // i ≤ a.qs.length ∧ i ≤ (20 : Nat) ∧ allI a.fp i = true }), a.qs.length - x'.val < a.qs.length - x.val ∧ (((0 : Nat) = (0 : Nat) ∧ (0 : Nat) = (0 : Nat)) ∧ (↑x'.val : Int) = IntKind.i64.wrap ((↑x.val : Int) + (1 : Int)) ∧ True) ∧ ((a.l = a.l ∧ d58 a.qs = d58 a.qs ∧ True) ∧ True) ∧ True)) False)) False) (fewM a = decide ((↑a.qs.length : Int) ≤ (20 : Int)) ∧ True)) (fewM a = decide ((↑a.qs.length : Int) ≤ (20 : Int)) ∧ True)) := by kernel_rfl
theorem v16 (ns : List Int) (ss : List B) : (OwesD e25 (16 : Nat) S16 (fun (_ : Nat) => []) (L16 ns ss) noJ () ns) = ( (∃ (x : { i : Nat // i ≤ ns.length ∧ i ≤ (60 : Nat) }), (d3 ns = d3 ns ∧ ((0 : Nat) = (0 : Nat) ∧ (18 : Nat) = (18 : Nat) ∧ Nat.le (0 : Nat) (18 : Nat)) ∧ mixM ns x.val = [] ∧ (↑x.val : Int) = (0 : Int) ∧ True) ∧ o9 ss = o9 [[OfNat.ofNat (108 : Nat), OfNat.ofNat (97 : Nat), OfNat.ofNat (98 : Nat), OfNat.ofNat (101 : Nat), OfNat.ofNat (108 : Nat), OfNat.ofNat (115 : Nat)], [OfNat.ofNat (113 : Nat), OfNat.ofNat (117 : Nat), OfNat.ofNat (101 : Nat), OfNat.ofNat (117 : Nat), OfNat.ofNat (101 : Nat)], [OfNat.ofNat (32 : Nat)], [OfNat.ofNat (32 : Nat), OfNat.ofNat (32 : Nat)], [OfNat.ofNat (10 : Nat)], [OfNat.ofNat (114 : Nat), OfNat.ofNat (111 : Nat), OfNat.ofNat (111 : Nat), OfNat.ofNat (116 : Nat)], [OfNat.ofNat (114 : Nat), OfNat.ofNat (111 : Nat), OfNat.ofNat (111 : Nat), OfNat.ofNat (116 : Nat), OfNat.ofNat (46 : Nat), OfNat.ofNat (97 : Nat)], [OfNat.ofNat (49 : Nat), OfNat.ofNat (48 : Nat), OfNat.ofNat (48 : Nat), OfNat.ofNat (48 : Nat), OfNat.ofNat (48 : Nat)], [OfNat.ofNat (48 : Nat)], [OfNat.ofNat (48 : Nat), OfNat.ofNat (49 : Nat)], [OfNat.ofNat (53 : Nat), OfNat.ofNat (47 : Nat), OfNat.ofNat (49 : Nat), OfNat.ofNat (48 : Nat)], [OfNat.ofNat (49 : Nat), OfNat.ofNat (48 : Nat), OfNat.ofNat (48 : Nat), OfNat.ofNat (48 : Nat), OfNat.ofNat (48 : Nat), OfNat.ofNat (47 : Nat), OfNat.ofNat (49 : Nat), OfNat.ofNat (48 : Nat), OfNat.ofNat (48 : Nat), OfNat.ofNat (48 : Nat), OfNat.ofNat (48 : Nat)], [OfNat.ofNat (47 : Nat)], [OfNat.ofNat (49 : Nat), OfNat.ofNat (47 : Nat)], [OfNat.ofNat (49 : Nat), OfNat.ofNat (50 : Nat), OfNat.ofNat (51 : Nat), OfNat.ofNat (52 : Nat), OfNat.ofNat (53 : Nat), OfNat.ofNat (54 : Nat), OfNat.ofNat (55 : Nat), OfNat.ofNat (56 : Nat), OfNat.ofNat (47 : Nat), OfNat.ofNat (49 : Nat)], [OfNat.ofNat (103 : Nat), OfNat.ofNat (112 : Nat), OfNat.ofNat (117 : Nat)], [OfNat.ofNat (120 : Nat)], [OfNat.ofNat (45 : Nat), OfNat.ofNat (49 : Nat), OfNat.ofNat (47 : Nat), OfNat.ofNat (50 : Nat)]] ∧ True) ∧ ∀ (x : { i : Nat // i ≤ ns.length ∧ i ≤ (60 : Nat) }), branch (decide ((↑x.val : Int) < (↑ns.length : Int))) (branch (decide ((↑x.val : Int) < (60 : Int))) (branch (decide ((↑x.val : Int) < (↑ns.length : Int)) && true && true) (branch (decide ((0 : Int) ≤ wi (ns.getD (↑x.val : Int).toNat (0 : Int)) (18 : Int)) && decide (wi (ns.getD (↑x.val : Int).toNat (0 : Int)) (18 : Int) < (18 : Int))) (branch (((0 : Nat) + (wi (ns.getD (↑x.val : Int).toNat (0 : Int)) (18 : Int)).toNat).blt ss.length) (branch ((List.length (mixM ns x.val) + List.length (ss.getD ((0 : Nat) + (wi (ns.getD (↑x.val : Int).toNat (0 : Int)) (18 : Int)).toNat) [])).ble (9223372036854775807 : Nat)) (∃ (x' : { i : Nat // i ≤ ns.length ∧ i ≤ (60 : Nat) }), ns.length - x'.val < ns.length - x.val ∧ (d3 ns = d3 ns ∧ ((0 : Nat) = (0 : Nat) ∧ (18 : Nat) = (18 : Nat) ∧ Nat.le (0 : Nat) (0 : Nat)) ∧ mixM ns x'.val = mixM ns x.val ++ ss.getD ((0 : Nat) + (wi (ns.getD
 (↑x.val : Int).toNat (0 : Int)) (18 : Int)).toNat) [] ∧ (↑x'.val : Int) = IntKind.i64.wrap ((↑x.val : Int) + (1 : Int)) ∧ True) ∧ o9 ss = o9 ss ∧ True) False) False) False) False) (mixN ns = mixM ns x.val ∧ True)) (mixN ns = mixM ns x.val ∧ True)) := by kernel_rfl
theorem v22 (k : Nat) (n : Int) : (OwesDN (e26 k) (22 : Nat) (SI (p22 (k + (1 : Nat))) (q22 (k + (1 : Nat)))) (fun (_ : Nat) => []) noL J22 (0 : Nat) n) = ( branch (decide (n < (0 : Int))) (branch (n == (-9223372036854775808 : Int)) (decN (k + (1 : Nat)) n = [OfNat.ofNat (45 : Nat), OfNat.ofNat (57 : Nat), OfNat.ofNat (50 : Nat), OfNat.ofNat (50 : Nat), OfNat.ofNat (51 : Nat), OfNat.ofNat (51 : Nat), OfNat.ofNat (55 : Nat), OfNat.ofNat (50 : Nat), OfNat.ofNat (48 : Nat), OfNat.ofNat (51 : Nat), OfNat.ofNat (54 : Nat), OfNat.ofNat (56 : Nat), OfNat.ofNat (53 : Nat), OfNat.ofNat (52 : Nat), OfNat.ofNat (55 : Nat), OfNat.ofNat (55 : Nat), OfNat.ofNat (53 : Nat), OfNat.ofNat (56 : Nat), OfNat.ofNat (48 : Nat), OfNat.ofNat (56 : Nat)] ∧ True) (branch ((SI (p22 k) (q22 k)).pre (IntKind.i64.wrap ((0 : Int) - n))) (branch (((1 : Nat) + List.length (decN k (IntKind.i64.wrap ((0 : Int) - n)))).ble (9223372036854775807 : Nat)) (decN (k + (1 : Nat)) n = [OfNat.ofNat (45 : Nat)] ++ decN k (IntKind.i64.wrap ((0 : Int) - n)) ∧ True) False) False)) (branch (decide (n ≥ (10 : Int))) (branch ((SI (p22 k) (q22 k)).pre (IntKind.i64.wrap (n.tdiv (10 : Int)))) (branch ((SI (p22 k) (q22 k)).pre (n.tmod (10 : Int))) (branch ((List.length (decN k (IntKind.i64.wrap (n.tdiv (10 : Int)))) + List.length (decN k (n.tmod (10 : Int)))).ble (9223372036854775807 : Nat)) (decN (k + (1 : Nat)) n = decN k (IntKind.i64.wrap (n.tdiv (10 : Int))) ++ decN k (n.tmod (10 : Int)) ∧ True) False) False) False) (∃ (x : { _c : Nat // False }), ((5 : Int) = n ∧ True) ∧ True) ∧ ∀ (x : { _c : Nat // False }), decN (k + (1 : Nat)) n = [UInt8.ofNat (53 : Nat)] ∧ True)) := by kernel_rfl
theorem v23 (a : AP) : (OwesD e0 (23 : Nat) S23 A23 (L23 a) (J23 a) () a) = ( branch (((0 : Nat) + a.n).ble a.q.caps.length && true && true) (((∃ (x : { k : Nat // a.Lt k }), (d46 a.l = d46 a.l ∧ ((0 : Nat) = (0 : Nat) ∧ (0 : Nat) = (0 : Nat)) ∧ (↑x.val : Int) = (0 : Int) ∧ True) ∧ ((a.q.path = a.q.path ∧ d48 a.q.caps = d48 (List.drop (0 : Nat) (List.take ((0 : Nat) + a.n) a.q.caps)) ∧ a.q.user = a.q.user ∧ True) ∧ True) ∧ True) ∧ ∀ (x : { k : Nat // a.Lt k }), branch (decide ((↑x.val : Int) < (↑a.l.length : Int))) (branch (decide ((↑x.val : Int) < (↑a.l.length : Int)) && true && true) (branch (Op.bytesLess (a.l.getD (↑x.val : Int).toNat (Qu.mk [] [] (0 : Int))).path a.q.path) (∃ (x' : { k : Nat // a.Lt k }), a.l.length - x'.val < a.l.length - x.val ∧ (d46 a.l = d46 a.l ∧ ((0 : Nat) = (0 : Nat) ∧ (0 : Nat) = (0 : Nat)) ∧ (↑x'.val : Int) = IntKind.i64.wrap ((↑x.val : Int) + (1 : Int)) ∧ True) ∧ ((a.q.path = a.q.path ∧ d48 a.q.caps = d48 a.q.caps ∧ a.q.user = a.q.user ∧ True) ∧ True) ∧ True) (∃ (x_1 : { k : Nat // a.Lt k ∧ (k < a.l.length → ltQ (a.l.getD k qd) a.q = false) }), (d46 a.l = d46 a.l ∧ ((0 : Nat) = (0 : Nat) ∧ (0 : Nat) = (0 : Nat)) ∧ (↑x_1.val : Int) = (↑x.val : Int) ∧ True) ∧ ((a.q.path = a.q.path ∧ d48 a.q.caps = d48 a.q.caps ∧ a.q.user = a.q.user ∧ True) ∧ True) ∧ True)) False) (∃ (x_1 : { k : Nat // a.Lt k ∧ (k < a.l.length → ltQ (a.l.getD k qd) a.q = false) }), (d46 a.l = d46 a.l ∧ ((0 : Nat) = (0 : Nat) ∧ (0 : Nat) = (0 : Nat)) ∧ (↑x_1.val : Int) = (↑x.val : Int) ∧ True) ∧ ((a.q.path = a.q.path ∧ d48 a.q.caps = d48 a.q.caps ∧ a.q.user = a.q.user ∧ True) ∧ True) ∧ True)) ∧ ∀ (x : { k : Nat // a.Lt k ∧ (k < a.l.length → ltQ (a.l.getD k qd) a.q = false) }), branch (decide ((↑x.val : Int) < (↑a.l.length : Int))) (branch (decide ((↑x.val : Int) < (↑a.l.length : Int)) && true && true) (branch ((a.l.getD (↑x.val : Int).toNat (Qu.mk [] [] (0 : Int))).path == a.q.path) (d46 (putM a.l a.q) = d46 a.l ∧ True) (∃ (x_1 : { k : Nat // k ≤ a.l.length ∧ putM a.l a.q = List.take k a.l ++ a.q :: List.drop k a.l }), (d46 a.l = d46 a.l ∧ ((0 : Nat) = (0 : Nat) ∧ (0 : Nat) = (0 : Nat)) ∧ (↑x_1.val : Int) = (↑x.val : Int) ∧ True) ∧ ((a.q.path = a.q.path ∧ d48 a.q.caps = d48 a.q.caps ∧ a.q.user = a.q.user ∧ True) ∧ True) ∧ True)) False) (∃ (x_1 : { k : Nat // k ≤ a.l.length ∧ putM a.l a.q = List.take k a.l ++ a.q :: List.drop k a.l }), (d46 a.l = d46 a.l ∧ ((0 : Nat) = (0 : Nat) ∧ (0 : Nat) = (0 : Nat)) ∧ (↑x_1.val : Int) = (↑x.val : Int) ∧ True) ∧ ((a.q.path = a.q.path ∧ d48 a.q.caps = d48 a.q.caps ∧ a.q.user = a.q.user ∧ True) ∧ True) ∧ True) ∧ ∀ (x : { k : Nat // k ≤ a.l.length ∧ putM a.l a.q = List.take k a.l ++ a.q :: List.drop k a.l }), branch (decide ((↑x.val : Int) ≤ (↑a.l.length : Int)) && true && true) (branch (((0 : Nat) + (List.drop (0 : Nat) (List.take (↑x.val : Int).toNat a.l)).length).ble (0 : Nat)) (branch (((0 : Nat) + (List.drop (0 : Nat) (List.take (↑x.val : Int).toNat a.l)).length).ble (0 : Nat)) (∃ (x_1 : { k : Nat // k ≤ a.l.length
 ∧ putM a.l a.q = List.take k a.l ++ a.q :: List.drop k a.l }), (d46 a.l = d46 a.l ∧ ((0 : Nat) = (0 : Nat) ∧ (0 : Nat) = (0 : Nat)) ∧ (↑x_1.val : Int) = (↑x.val : Int) ∧ ((0 : Nat) = (0 : Nat) ∧ x_1.val = (0 : Nat) + (List.drop (0 : Nat) (List.take (↑x.val : Int).toNat a.l)).length ∧ Nat.le (0 : Nat) (0 : Nat)) ∧ True) ∧ ((a.q.path = a.q.path ∧ d48 a.q.caps = d48 a.q.caps ∧ a.q.user = a.q.user ∧ True) ∧ True) ∧ o46 (List.take x_1.val a.l) = o46 (setRange [] (0 : Nat) (List.drop (0 : Nat) (List.take (↑x.val : Int).toNat a.l))) ∧ True) False) (branch ((((0 : Nat) + (List.drop (0 : Nat) (List.take (↑x.val : Int).toNat a.l)).length) * (48 : Nat)).ble (140737488355328 : Nat) && ((0 : Nat) + (List.drop (0 : Nat) (List.take (↑x.val : Int).toNat a.l)).length).ble (9223372036854775807 : Nat) && true && true && true) (∃ (x_1 : { k : Nat // k ≤ a.l.length ∧ putM a.l a.q = List.take k a.l ++ a.q :: List.drop k a.l }), (d46 a.l = d46 a.l ∧ ((0 : Nat) = (0 : Nat) ∧ (0 : Nat) = (0 : Nat)) ∧ (↑x_1.val : Int) = (↑x.val : Int) ∧ ((0 : Nat) = (0 : Nat) ∧ x_1.val = (0 : Nat) + (List.drop (0 : Nat) (List.take (↑x.val : Int).toNat a.l)).length ∧ Nat.le (0 : Nat) ((0 : Nat) + (List.drop (Int.toNat (0 : Int)) (List.take (↑x.val : Int).toNat a.l)).length)) ∧ True) ∧ ((a.q.path = a.q.path ∧ d48 a.q.caps = d48 a.q.caps ∧ a.q.user = a.q.user ∧ True) ∧ True) ∧ o46 (List.take x_1.val a.l) = o46 ([] ++ List.drop (0 : Nat) (List.take (↑x.val : Int).toNat a.l)) ∧ True) False)) False ∧ ∀ (x : { k : Nat // k ≤ a.l.length ∧ putM a.l a.q = List.take k a.l ++ a.q :: List.drop k a.l }), branch (((0 : Nat) + x.val).beq (List.take x.val a.l).length) (branch (((x.val + (1 : Nat)) * (48 : Nat)).ble (140737488355328 : Nat) && (x.val + (1 : Nat)).ble (9223372036854775807 : Nat) && true && true && ((0 : Nat) + x.val).ble (List.take x.val a.l).length) (∃ (x_1 : { k : Nat // k ≤ a.l.length ∧ putM a.l a.q = List.take k a.l ++ a.q :: List.drop k a.l }), (d46 a.l = d46 a.l ∧ (↑x_1.val : Int) = (↑x.val : Int) ∧ ((0 : Nat) = (0 : Nat) ∧ x_1.val + (1 : Nat) = x.val + (1 : Nat) ∧ Nat.le (0 : Nat) (x.val + (1 : Nat))) ∧ True) ∧ o46 (List.take x_1.val a.l ++ [a.q]) = o46 (List.take x.val (List.drop (0 : Nat) (List.take x.val a.l)) ++ [a.q]) ∧ True) False) False ∧ ∀ (x : { k : Nat // k ≤ a.l.length ∧ putM a.l a.q = List.take k a.l ++ a.q :: List.drop k a.l }), branch (decide ((↑x.val : Int) ≤ (↑a.l.length : Int)) && decide ((↑a.l.length : Int) ≤ (↑a.l.length : Int)) && true && true) (branch ((x.val + (1 : Nat) + (List.drop (↑x.val : Int).toNat (List.take (↑a.l.length : Int).toNat a.l)).length).ble (0 : Nat)) (branch (((0 : Nat) + (x.val + (1 : Nat)) + (List.drop (↑x.val : Int).toNat (List.take (↑a.l.length : Int).toNat a.l)).length).ble (List.take x.val a.l ++ [a.q]).length) (branch (((0 : Nat) + (x.val + (1 : Nat) + (List.drop (↑x.val : Int).toNat (List.take (↑a.l.length : Int).toNat a.l)).length)).ble (setRange (List.take x.val a.l ++ [a.q]) ((0 : Nat) + (x.val + (1 : Nat))) (List.drop (↑x.val :
 Int).toNat (List.take (↑a.l.length : Int).toNat a.l))).length) (d46 (putM a.l a.q) = d46 (List.drop (0 : Nat) (List.take ((0 : Nat) + (x.val + (1 : Nat) + (List.drop (↑x.val : Int).toNat (List.take (↑a.l.length : Int).toNat a.l)).length)) (setRange (List.take x.val a.l ++ [a.q]) ((0 : Nat) + (x.val + (1 : Nat))) (List.drop (↑x.val : Int).toNat (List.take (↑a.l.length : Int).toNat a.l))))) ∧ True) False) False) (branch (((0 : Nat) + (x.val + (1 : Nat))).beq (List.take x.val a.l ++ [a.q]).length) (branch (((x.val + (1 : Nat) + (List.drop (↑x.val : Int).toNat (List.take (↑a.l.length : Int).toNat a.l)).length) * (48 : Nat)).ble (140737488355328 : Nat) && (x.val + (1 : Nat) + (List.drop (↑x.val : Int).toNat (List.take (↑a.l.length : Int).toNat a.l)).length).ble (9223372036854775807 : Nat) && true && true && ((0 : Nat) + (x.val + (1 : Nat))).ble (List.take x.val a.l ++ [a.q]).length) (branch (((0 : Nat) + (x.val + (1 : Nat) + (List.drop (↑x.val : Int).toNat (List.take (↑a.l.length : Int).toNat a.l)).length)).ble (List.take (x.val + (1 : Nat)) (List.drop (0 : Nat) (List.take x.val a.l ++ [a.q])) ++ List.drop (↑x.val : Int).toNat (List.take (↑a.l.length : Int).toNat a.l)).length) (d46 (putM a.l a.q) = d46 (List.drop (0 : Nat) (List.take ((0 : Nat) + (x.val + (1 : Nat) + (List.drop (↑x.val : Int).toNat (List.take (↑a.l.length : Int).toNat a.l)).length)) (List.take (x.val + (1 : Nat)) (List.drop (0 : Nat) (List.take x.val a.l ++ [a.q])) ++ List.drop (↑x.val : Int).toNat (List.take (↑a.l.length : Int).toNat a.l)))) ∧ True) False) False) False)) False) False) := by kernel_rfl
theorem v22d0 (_k : Nat) : (MeetK e27 (22 : Nat) (SI (p22 (0 : Nat)) (q22 (0 : Nat))) (0 : Int)) = ( [UInt8.ofNat (48 : Nat)] = [UInt8.ofNat (48 : Nat)] ∧ True) := by kernel_rfl
theorem v22d1 (_k : Nat) : (MeetK e27 (22 : Nat) (SI (p22 (0 : Nat)) (q22 (0 : Nat))) (1 : Int)) = ( [UInt8.ofNat (49 : Nat)] = [UInt8.ofNat (49 : Nat)] ∧ True) := by kernel_rfl
theorem v22d2 (_k : Nat) : (MeetK e27 (22 : Nat) (SI (p22 (0 : Nat)) (q22 (0 : Nat))) (2 : Int)) = ( [UInt8.ofNat (50 : Nat)] = [UInt8.ofNat (50 : Nat)] ∧ True) := by kernel_rfl
theorem v22d3 (_k : Nat) : (MeetK e27 (22 : Nat) (SI (p22 (0 : Nat)) (q22 (0 : Nat))) (3 : Int)) = ( [UInt8.ofNat (51 : Nat)] = [UInt8.ofNat (51 : Nat)] ∧ True) := by kernel_rfl
theorem v22d4 (_k : Nat) : (MeetK e27 (22 : Nat) (SI (p22 (0 : Nat)) (q22 (0 : Nat))) (4 : Int)) = ( [UInt8.ofNat (52 : Nat)] = [UInt8.ofNat (52 : Nat)] ∧ True) := by kernel_rfl
theorem v22d5 (_k : Nat) : (MeetK e27 (22 : Nat) (SI (p22 (0 : Nat)) (q22 (0 : Nat))) (5 : Int)) = ( [UInt8.ofNat (53 : Nat)] = [UInt8.ofNat (53 : Nat)] ∧ True) := by kernel_rfl
theorem v22d6 (_k : Nat) : (MeetK e27 (22 : Nat) (SI (p22 (0 : Nat)) (q22 (0 : Nat))) (6 : Int)) = ( [UInt8.ofNat (54 : Nat)] = [UInt8.ofNat (54 : Nat)] ∧ True) := by kernel_rfl
theorem v22d7 (_k : Nat) : (MeetK e27 (22 : Nat) (SI (p22 (0 : Nat)) (q22 (0 : Nat))) (7 : Int)) = ( [UInt8.ofNat (55 : Nat)] = [UInt8.ofNat (55 : Nat)] ∧ True) := by kernel_rfl
theorem v22d8 (_k : Nat) : (MeetK e27 (22 : Nat) (SI (p22 (0 : Nat)) (q22 (0 : Nat))) (8 : Int)) = ( [UInt8.ofNat (56 : Nat)] = [UInt8.ofNat (56 : Nat)] ∧ True) := by kernel_rfl
theorem v22d9 (_k : Nat) : (MeetK e27 (22 : Nat) (SI (p22 (0 : Nat)) (q22 (0 : Nat))) (9 : Int)) = ( [UInt8.ofNat (57 : Nat)] = [UInt8.ofNat (57 : Nat)] ∧ True) := by kernel_rfl

end Go.Proofs.YtaonjbojhikndaaDoor

namespace Go.Proofs.YtaonjbojhikndaaDoor
open Go Go.W
set_option maxRecDepth 100000
theorem wi_big (a : Int) {n : Int} (h : 0 < n) (hn : n ≤ 1000000000) : 0 ≤ wi a n ∧ wi a n < n := by
  have h1 := Int.tmod_lt_of_pos a h
  have h2 : -n < a.tmod n := by
    have := Int.tmod_lt_of_pos (-a) h
    rw [Int.neg_tmod] at this
    omega
  unfold wi
  by_cases hb : a.tmod n < 0
  · rw [decide_eq_true hb, cond_true, wrap_id (by omega) (by omega)]
    omega
  · rw [decide_eq_false hb, cond_false]
    omega
/-! ### few -/
theorem few_no {a : AR} {i : Nat} (hi : i < a.qs.length) (h : a.fp i = false) : fewM a = false := by
  unfold fewM; rw [allI_not hi h, Bool.and_false]
theorem ok12 (a : AR) (_hp : S12.pre a = true) : Owes e0 12 S12 (fun _ => []) (L12 a) noJ () a := by
  refine Owes.mk ?_
  rw [v12]
  refine ⟨⟨⟨0, Nat.zero_le _, Nat.zero_le _, rfl⟩, ⟨⟨rfl, rfl⟩, rfl, trivial⟩, ⟨⟨rfl, rfl, trivial⟩, trivial⟩, trivial⟩, fun x => ?_⟩
  have x1 := x.2.1
  have x2 := x.2.2.1
  have x3 := x.2.2.2
  have e1 : ((x.1 : Int)).toNat = x.1 := by simp
  have w1 : IntKind.i64.wrap ((x.1 : Int) + 1) = ((x.1 + 1 : Nat) : Int) := by rw [wrap_id] <;> omega
  rw [e1, w1]
  have hd : decide ((a.qs.length : Int) ≤ 20) = decide (a.qs.length ≤ 20) := by rw [decide_eq_decide]; omega
  refine br (fun hlt => ?_) (fun hge => ?_)
  · have hlt : x.1 < a.qs.length := by simpa using hlt
    refine br (fun h20 => ?_) (fun h20 => ?_)
    · have h20 : x.1 < 20 := by have := of_decide_eq_true h20; omega
      refine brT (dTT (by omega)) (br (fun hb => ⟨few_no hlt ?_, trivial⟩) (fun hb => brT (dTT (by omega)) (br (fun hc => ⟨few_no hlt ?_, trivial⟩) (fun hc => ?_))))
      · have hb : ((a.qs.getD x.1 rqd).names.length : Int) > 8 := of_decide_eq_true hb
        unfold AR.fp fewQ; rw [dF (by omega)]; rfl
      · have hc : ((a.qs.getD x.1 rqd).caps.length : Int) > 8 := of_decide_eq_true hc
        unfold AR.fp fewQ; rw [dF (by omega : ¬ (a.qs.getD x.1 rqd).caps.length ≤ 8), Bool.and_false]
      · have hb : ¬ ((a.qs.getD x.1 rqd).names.length : Int) > 8 := of_decide_eq_false hb
        have hc : ¬ ((a.qs.getD x.1 rqd).caps.length : Int) > 8 := of_decide_eq_false hc
        have hf : a.fp x.1 = true := by
          unfold AR.fp fewQ; rw [dT (by omega), dT (by omega)]; rfl
        refine ⟨⟨x.1 + 1, hlt, h20, by show (allI a.fp x.1 && a.fp x.1) = true; rw [x3, hf]; rfl⟩, ?_, ⟨⟨rfl, rfl⟩, rfl, trivial⟩, ⟨⟨rfl, rfl, trivial⟩, trivial⟩, trivial⟩
        show a.qs.length - (x.1 + 1) < _; omega
    · have h20 : x.1 = 20 := by
        have : ¬ (x.1 : Int) < 20 := of_decide_eq_false h20
        omega
      refine ⟨?_, trivial⟩
      rw [hd, dF (by omega : ¬ a.qs.length ≤ 20)]
      unfold fewM
      rw [dF (by omega : ¬ a.qs.length ≤ 20)]; rfl
  · have hge : ¬ x.1 < a.qs.length := by simpa using hge
    have hx : x.1 = a.qs.length := by omega
    rw [hx] at x3
    refine ⟨?_, trivial⟩
    rw [hd]
    unfold fewM
    rw [x3, Bool.and_true]
theorem k12 : SpecOk Tryd.prog 12 S12 := spec_loop e0_sound (by kernel_rfl) (fun _ _ => []) L12 (fun _ => noJ) (fun _ => ()) ok12
def M12 : Meet S12 := MR _ _
theorem a12 : RowOK 12 (S12.con M12) := Spec.con_ok k12 M12 (fun _ => Nat.le_of_ble_eq_true rfl)
/-! ### put -/
theorem ok23 (a : AP) (hp : S23.pre a = true) : Owes e0 23 S23 A23 (L23 a) (J23 a) () a := by
  refine Owes.mk ?_
  rw [v23]
  have hp : AP.fine a = true := hp
  simp only [AP.fine, Bool.and_eq_true] at hp
  have hn : a.n = a.q.caps.length := Nat.eq_of_beq_eq_true hp.1.1
  have hl := small_le hp.1.2
  have hc := small_le hp.2
  rw [hn, whole_d]
  refine brT (by rw [Bool.and_true, Bool.and_true]; exact ble_z _) ⟨⟨⟨⟨0, Nat.zero_le _, fun j h => absurd h (Nat.not_lt_zero _)⟩, ⟨rfl, ⟨rfl, rfl⟩, rfl, trivial⟩, ⟨⟨rfl, rfl, rfl, trivial⟩, trivial⟩, trivial⟩, fun k => ?_⟩, fun k => ⟨?_, fun k => ⟨?_, fun k => ⟨?_, fun k => ?_⟩⟩⟩⟩
  · have k1 := k.2.le
    have k2 := k.2.lt
    have e2 : ((k.1 : Int)).toNat = k.1 := by simp
    rw [e2]
    refine br (fun hk => ?_) (fun hk => ?_)
    · have hk : k.1 < a.l.length := by simpa using hk
      have wk : IntKind.i64.wrap ((k.1 : Int) + 1) = ((k.1 + 1 : Nat) : Int) := by rw [wrap_id] <;> omega
      rw [wk]
      refine brT (dTT (by omega)) (br (fun hb => ?_) (fun hb => ?_))
      · have hb : ltQ (a.l.getD k.1 qd) a.q = true := hb
        refine ⟨⟨k.1 + 1, hk, fun j hj => ?_⟩, ?_, ⟨rfl, ⟨rfl, rfl⟩, rfl, trivial⟩, ⟨⟨rfl, rfl, rfl, trivial⟩, trivial⟩, trivial⟩
        · by_cases h : j = k.1
          · rw [h]; exact hb
          · exact k2 j (by omega)
        · show a.l.length - (k.1 + 1) < _; omega
      · have hb : ltQ (a.l.getD k.1 qd) a.q = false := hb
        exact ⟨⟨k.1, k.2, fun _ => hb⟩, ⟨rfl, ⟨rfl, rfl⟩, rfl, trivial⟩, ⟨⟨rfl, rfl, rfl, trivial⟩, trivial⟩, trivial⟩
    · have hk : ¬ k.1 < a.l.length := by simpa using hk
      exact ⟨⟨k.1, k.2, fun h => absurd h hk⟩, ⟨rfl, ⟨rfl, rfl⟩, rfl, trivial⟩, ⟨⟨rfl, rfl, rfl, trivial⟩, trivial⟩, trivial⟩
  · have k1 := k.2.1.le
    have e2 : ((k.1 : Int)).toNat = k.1 := by simp
    rw [e2]
    obtain ⟨i1, i2⟩ := insF_split k1 k.2.1.lt k.2.2
    refine br (fun hk => brT ?_ (br (fun hb => ⟨?_, trivial⟩) (fun hb => ?_))) (fun hk => ?_)
    · rw [Bool.and_true, Bool.and_true]; exact hk
    · have hb : ((a.l.getD k.1 qd).path == a.q.path) = true := hb
      have hk : k.1 < a.l.length := by simpa using hk
      have : putM a.l a.q = a.l := by unfold putM; rw [i2, dT hk, hb]; rfl
      rw [this]
    · have hb : ((a.l.getD k.1 qd).path == a.q.path) = false := hb
      have : putM a.l a.q = a.l.take k.1 ++ a.q :: a.l.drop k.1 := by unfold putM; rw [i2, hb, Bool.and_false]; exact i1
      exact ⟨⟨k.1, k1, this⟩, ⟨rfl, ⟨rfl, rfl⟩, rfl, trivial⟩, ⟨⟨rfl, rfl, rfl, trivial⟩, trivial⟩, trivial⟩
    · have hk : ¬ k.1 < a.l.length := by simpa using hk
      have : putM a.l a.q = a.l.take k.1 ++ a.q :: a.l.drop k.1 := by unfold putM; rw [i2, dF hk]; exact i1
      exact ⟨⟨k.1, k1, this⟩, ⟨rfl, ⟨rfl, rfl⟩, rfl, trivial⟩, ⟨⟨rfl, rfl, rfl, trivial⟩, trivial⟩, trivial⟩
  · have k1 := k.2.1
    have e2 : ((k.1 : Int)).toNat = k.1 := by simp
    have hl : (List.take k.1 a.l).length = k.1 := by simp; omega
    rw [e2]
    refine brT (dTT (by omega)) (br (fun hk => brT hk ?_) (fun hk => brT ?_ ?_))
    · have hk := Nat.le_of_ble_eq_true hk
      rw [List.drop_zero, hl] at hk
      have hz : k.1 = 0 := by omega
      have ht : List.take k.1 a.l = [] := by rw [hz]; rfl
      refine ⟨⟨k.1, k.2⟩, ⟨rfl, ⟨rfl, rfl⟩, rfl, ⟨rfl, ?_, Nat.le_refl _⟩, trivial⟩, ⟨⟨rfl, rfl, rfl, trivial⟩, trivial⟩, ?_, trivial⟩
      · show k.1 = _; rw [List.drop_zero, hl]; omega
      · show o46 (List.take k.1 a.l) = _
        rw [ht]; rfl
    · rw [List.drop_zero, hl]
      simp only [Bool.and_eq_true]
      exact ⟨⟨⟨⟨Nat.ble_eq_true_of_le (by omega), Nat.ble_eq_true_of_le (by omega)⟩, trivial⟩, trivial⟩, trivial⟩
    · refine ⟨⟨k.1, k.2⟩, ⟨rfl, ⟨rfl, rfl⟩, rfl, ⟨rfl, ?_, Nat.zero_le _⟩, trivial⟩, ⟨⟨rfl, rfl, rfl, trivial⟩, trivial⟩, ?_, trivial⟩
      · show k.1 = _; rw [List.drop_zero, hl]; omega
      · rfl
  · have k1 := k.2.1
    have hl : (List.take k.1 a.l).length = k.1 := by simp; omega
    have hg : List.take k.1 (List.drop 0 (List.take k.1 a.l)) ++ [a.q] = List.take k.1 a.l ++ [a.q] := by
      rw [List.drop_zero, List.take_take, Nat.min_self]
    rw [hl, hg]
    exact brT (beq_z _) (brT (grow_b (by decide) (by omega)) ⟨⟨k.1, k.2⟩, ⟨rfl, rfl, ⟨rfl, rfl, Nat.zero_le _⟩, trivial⟩, rfl, trivial⟩)
  · have k1 := k.2.1
    have kin := k.2.2
    have e2 : ((k.1 : Int)).toNat = k.1 := by simp
    have e3 : ((a.l.length : Int)).toNat = a.l.length := by simp
    have hd : (List.drop k.1 a.l).length = a.l.length - k.1 := by simp
    have hgl : (List.take k.1 a.l ++ [a.q]).length = k.1 + 1 := by simp; omega
    rw [e2, e3, List.take_length, hd]
    refine brT ?_ (brF ?_ (brT ?_ (brT ?_ (brT ?_ ⟨?_, trivial⟩))))
    · rw [Bool.and_true, Bool.and_true, Bool.and_eq_true]
      exact ⟨dT (by omega), dT (Int.le_refl _)⟩
    · cases h : Nat.ble (k.1 + 1 + (a.l.length - k.1)) 0 with
      | false => rfl
      | true => have := Nat.le_of_ble_eq_true h; omega
    · rw [hgl, Nat.zero_add]; exact Nat.beq_refl _
    · rw [hgl]
      simp only [Bool.and_eq_true]
      exact ⟨⟨⟨⟨Nat.ble_eq_true_of_le (by omega), Nat.ble_eq_true_of_le (by omega)⟩, trivial⟩, trivial⟩, Nat.ble_eq_true_of_le (by omega)⟩
    · rw [List.drop_zero, List.take_of_length_le (Nat.le_of_eq hgl)]
      exact Nat.ble_eq_true_of_le (by simp; omega)
    · refine congrArg d46 (kin.trans (Eq.symm ?_))
      rw [List.drop_zero, List.drop_zero, List.take_of_length_le (Nat.le_of_eq hgl), List.take_of_length_le (by simp; omega), List.append_assoc]; rfl
theorem k23 : SpecOk Tryd.prog 23 S23 := spec_loop e0_sound (by kernel_rfl) (fun _ => A23) L23 J23 (fun _ => ()) ok23
theorem a23 : RowOK 23 (S23.con M23) := Spec.con_ok k23 M23 (fun _ => Nat.le_of_ble_eq_true rfl)
/-! ### mix -/
theorem some_len {k : Nat} (h : k < 18) : (someM.getD k []).length ≤ 12 := by
  have : k = 0 ∨ k = 1 ∨ k = 2 ∨ k = 3 ∨ k = 4 ∨ k = 5 ∨ k = 6 ∨ k = 7 ∨ k = 8 ∨ k = 9 ∨ k = 10 ∨ k = 11 ∨ k = 12 ∨ k = 13 ∨ k = 14 ∨ k = 15 ∨ k = 16 ∨ k = 17 := by omega
  rcases this with h | h | h | h | h | h | h | h | h | h | h | h | h | h | h | h | h | h <;> subst h <;> decide
theorem mix_len (ns : List Int) : ∀ k, (mixM ns k).length ≤ 12 * k
  | 0 => Nat.le_refl _
  | k + 1 => by
    have ih := mix_len ns k
    have hb := wi_big (ns.getD k 0) (n := 18) (by decide) (by decide)
    have := some_len (k := (wi (ns.getD k 0) 18).toNat) (by omega)
    show (mixM ns k ++ _).length ≤ _
    rw [List.length_append]; omega
theorem ok16 (ns : List Int) (_hp : S16.pre ns = true) : Owes e25 16 S16 (fun _ => []) (L16 ns someM) noJ () ns := by
  refine Owes.mk ?_
  rw [v16]
  refine ⟨⟨⟨0, Nat.zero_le _, Nat.zero_le _⟩, ⟨rfl, ⟨rfl, rfl, Nat.zero_le _⟩, rfl, rfl, trivial⟩, rfl, trivial⟩, fun x => ?_⟩
  have x1 := x.2.1
  have x2 := x.2.2
  have e1 : ((x.1 : Int)).toNat = x.1 := by simp
  have w1 : IntKind.i64.wrap ((x.1 : Int) + 1) = ((x.1 + 1 : Nat) : Int) := by rw [wrap_id] <;> omega
  have hb := wi_big (ns.getD x.1 0) (n := 18) (by decide) (by decide)
  have hm := mix_len ns x.1
  have hs := some_len (k := (wi (ns.getD x.1 0) 18).toNat) (by omega)
  rw [e1, w1, Nat.zero_add]
  refine br (fun hlt => ?_) (fun hge => ?_)
  · have hlt : x.1 < ns.length := by simpa using hlt
    refine br (fun h60 => ?_) (fun h60 => ?_)
    · have h60 : x.1 < 60 := by have := of_decide_eq_true h60; omega
      refine brT (dTT (by omega)) (brT ?_ (brT ?_ (brT ?_ ?_)))
      · rw [Bool.and_eq_true]; exact ⟨dT hb.1, dT hb.2⟩
      · show Nat.ble ((wi (ns.getD x.1 0) 18).toNat + 1) 18 = true
        exact Nat.ble_eq_true_of_le (by omega)
      · exact Nat.ble_eq_true_of_le (by omega)
      · refine ⟨⟨x.1 + 1, hlt, h60⟩, ?_, ⟨rfl, ⟨rfl, rfl, Nat.zero_le _⟩, rfl, rfl, trivial⟩, rfl, trivial⟩
        show ns.length - (x.1 + 1) < _; omega
    · have h60 : x.1 = 60 := by
        have : ¬ (x.1 : Int) < 60 := of_decide_eq_false h60
        omega
      refine ⟨?_, trivial⟩
      unfold mixN
      rw [show min ns.length 60 = x.1 by omega]
  · have hge : ¬ x.1 < ns.length := by simpa using hge
    refine ⟨?_, trivial⟩
    unfold mixN
    rw [show min ns.length 60 = x.1 by omega]
theorem k16 : SpecOk Tryd.prog 16 S16 := spec_loop e25_sound (by kernel_rfl) (fun _ _ => []) (fun ns => L16 ns someM) (fun _ => noJ) (fun _ => ()) ok16
theorem a16 : RowOK 16 (S16.con M16) := Spec.con_ok k16 M16 (fun _ => Nat.le_of_ble_eq_true rfl)
/-! ### Decimal -/
theorem p22_is {k : Nat} {n : Int} (h : p22 k n = true) : 0 ≤ n ∧ n < 10 ^ (k + 1) := by
  unfold p22 at h
  rw [Bool.and_eq_true] at h
  exact ⟨of_decide_eq_true h.1, of_decide_eq_true h.2⟩
theorem p22_of {k : Nat} {n : Int} (h1 : 0 ≤ n) (h2 : n < 10 ^ (k + 1)) : p22 k n = true := by
  unfold p22
  rw [dT h1, dT h2]; rfl
theorem pow10_pos : ∀ k : Nat, (0 : Int) < 10 ^ k
  | 0 => by decide
  | k + 1 => by have := pow10_pos k; rw [Int.pow_succ]; omega
theorem pow10_le (a : Nat) : ∀ c : Nat, (10 : Int) ^ a ≤ 10 ^ (a + c)
  | 0 => Int.le_refl _
  | c + 1 => by have := pow10_le a c; have := pow10_pos (a + c); rw [← Nat.add_assoc, Int.pow_succ]; omega
theorem k22_0 : SpecOk Tryd.prog 22 (SI (p22 0) (q22 0)) := by
  refine spec_leaf e27_sound (by kernel_rfl) (fun (n : Int) hn => MeetsK.mk ?_)
  obtain ⟨h1, h2⟩ := p22_is (show p22 0 n = true from hn)
  have h2 : n < 10 := h2
  have : n = 0 ∨ n = 1 ∨ n = 2 ∨ n = 3 ∨ n = 4 ∨ n = 5 ∨ n = 6 ∨ n = 7 ∨ n = 8 ∨ n = 9 := by omega
  rcases this with h | h | h | h | h | h | h | h | h | h <;> subst h
  · rw [v22d0 0]; exact ⟨rfl, trivial⟩
  · rw [v22d1 0]; exact ⟨rfl, trivial⟩
  · rw [v22d2 0]; exact ⟨rfl, trivial⟩
  · rw [v22d3 0]; exact ⟨rfl, trivial⟩
  · rw [v22d4 0]; exact ⟨rfl, trivial⟩
  · rw [v22d5 0]; exact ⟨rfl, trivial⟩
  · rw [v22d6 0]; exact ⟨rfl, trivial⟩
  · rw [v22d7 0]; exact ⟨rfl, trivial⟩
  · rw [v22d8 0]; exact ⟨rfl, trivial⟩
  · rw [v22d9 0]; exact ⟨rfl, trivial⟩
theorem dec_len : ∀ (k : Nat) (n : Int), (decN k n).length ≤ 2 ^ k
  | 0, _ => Nat.le_refl _
  | k + 1, n => by
    unfold decN
    have h1 := dec_len k (n.tdiv 10)
    have h2 := dec_len k (n.tmod 10)
    have h3 : 2 ^ (k + 1) = 2 ^ k * 2 := Nat.pow_succ ..
    have h4 : 1 ≤ 2 ^ k := Nat.one_le_two_pow
    cases decide (10 ≤ n) with
    | true => rw [cond_true, List.length_append]; omega
    | false => rw [cond_false]; show 1 ≤ _; omega
theorem a22 : ∀ k, k ≤ 17 → RowOK 22 ((SI (p22 k) (q22 k)).con (MI (p22 k) (q22 k)))
  | 0, _ => Spec.con_ok k22_0 _ (fun _ => Nat.le_of_ble_eq_true rfl)
  | k + 1, hk => by
    refine Spec.con_ok ⟨k22_0.1, fun (n : Int) hn => ?_⟩ _ (fun _ => Nat.le_of_ble_eq_true rfl)
    have hn : p22 (k + 1) n = true := hn
    obtain ⟨h1, h2⟩ := p22_is hn
    by_cases h10 : n < 10
    · have e : (SI (p22 (k + 1)) (q22 (k + 1))).out n = (SI (p22 0) (q22 0)).out n := by
        show q22 (k + 1) n = q22 0 n
        unfold q22 decN
        rw [dF (by omega : ¬ 10 ≤ n)]; rfl
      rw [e]
      exact k22_0.2 n (p22_of h1 (by show n < 10; exact h10))
    · have hT : ConOk Tryd.prog (K26 k) := con_cons (a22 k (by omega)) con_nil
      have hE : HdSound Tryd.prog (e26 k) := hdT_sound mixed hno hT _ _ _
      have key : SpecOk Tryd.prog 22 (SI (fun m => p22 (k + 1) m && decide (10 ≤ m)) (q22 (k + 1))) := by
        refine spec_loopN hE (by kernel_rfl) (fun _ _ => []) (fun _ => noL) (fun _ => J22) (fun _ => (0 : Nat)) (fun (m : Int) hm => OwesN.mk ?_)
        have hm : (p22 (k + 1) m && decide (10 ≤ m)) = true := hm
        rw [Bool.and_eq_true] at hm
        obtain ⟨m1, m2⟩ := p22_is hm.1
        have m10 : 10 ≤ m := of_decide_eq_true hm.2
        have hE' := v22 k m
        refine Eq.mpr hE' ?_
        have b18 : (10 : Int) ^ (k + 1 + 1) ≤ 10 ^ 18 := by
          have := pow10_le (k + 1 + 1) (16 - k)
          rw [show k + 1 + 1 + (16 - k) = 18 by omega] at this
          exact this
        have e18 : (10 : Int) ^ 18 = 1000000000000000000 := rfl
        have p1 := pow10_pos k
        have s1 : (10 : Int) ^ (k + 1) = 10 ^ k * 10 := Int.pow_succ ..
        have s2 : (10 : Int) ^ (k + 1 + 1) = 10 ^ (k + 1) * 10 := Int.pow_succ ..
        have t1 : m.tdiv 10 = m / 10 := Int.tdiv_eq_ediv_of_nonneg m1
        have t2 : m.tmod 10 = m % 10 := Int.tmod_eq_emod_of_nonneg m1
        have w1 : IntKind.i64.wrap (m.tdiv 10) = m.tdiv 10 := by rw [t1, wrap_id] <;> omega
        have l1 := dec_len k (m.tdiv 10)
        have l2 := dec_len k (m.tmod 10)
        have l3 : 2 ^ k ≤ 2 ^ 17 := Nat.pow_le_pow_right (by decide) (by omega)
        have l4 : 2 ^ 17 = 131072 := rfl
        rw [w1]
        refine brF (dF (by omega)) ⟨brT (dT (by omega)) (brT ?_ (brT ?_ (brT ?_ ⟨?_, trivial⟩))), fun x => x.2.elim⟩
        · show p22 k (m.tdiv 10) = true
          rw [t1]; exact p22_of (by omega) (by omega)
        · show p22 k (m.tmod 10) = true
          rw [t2]; exact p22_of (by omega) (by omega)
        · exact Nat.ble_eq_true_of_le (by omega)
        · show (bif decide (10 ≤ m) then decN k (m.tdiv 10) ++ decN k (m.tmod 10) else digB m) = _
          rw [dT m10]; rfl
      exact key.2 n (by show (p22 (k + 1) n && decide (10 ≤ n)) = true; rw [hn, dT (by omega : 10 ≤ n)]; rfl)
end Go.Proofs.YtaonjbojhikndaaDoor

namespace Go.Proofs.YtaonjbojhikndaaDoor
open Go Go.W
set_option maxRecDepth 100000
def K28 : Con regK.T := fun f => lookN [(15, S15.con M15), (23, S23.con M23)] f
theorem K28_ok : ConOk Tryd.prog K28 := con_cons a15 (con_cons a23 con_nil)
noncomputable def e28 : Hd regK.T := hdT regK Tryd.prog K28 (fun _ => false) 1000 5
theorem e28_sound : HdSound Tryd.prog e28 := hdT_sound mixed hno K28_ok _ _ _
def lab3 : List B := [[], [103, 112, 117], [115, 115, 100]]
def labM (l : Int) : List B := lab3.take (1 + (wi l 3).toNat)
def nameL : List B := [[97], [98], [99, 45, 49], [57]]
def pathM (ns : List Int) : Nat → B
  | 0 => [114, 111, 111, 116]
  | k + 1 => pathM ns k ++ [46] ++ nameL.getD (wi (ns.getD k 0) 4).toNat []
def capAt (cs : List Cp) (k : Nat) : Cp := bif decide (k < cs.length) then ⟨wi (cs.getD k cd).least 10001, wi (cs.getD k cd).most 10001⟩ else ⟨10000, 10000⟩
def mkCaps (cs : List Cp) : Nat → List Cp
  | 0 => []
  | k + 1 => mkCaps cs k ++ [capAt cs k]
def mkQ (n : Nat) (r : Rq) : Qu := ⟨pathM r.names (min r.names.length 4), mkCaps r.caps n, wi r.user 1000000⟩
def mkQs (n : Nat) (qs : List Rq) : Nat → List Qu
  | 0 => []
  | i + 1 => putM (mkQs n qs i) (mkQ n (qs.getD i rqd))
def makeQ (a : AR) : List Qu := mkQs (labM a.l).length a.qs (min a.qs.length 16)
def o14 (a : AR) : QO := .ret (.agg [.d (.sl 9 (labM a.l)), .d (.sl 46 (makeQ a))], [])
def S14 : Go.W.Spec regK.T := ⟨AR, fun a => [.agg [ki a.l, .d (.sl 58 a.qs)]], fun _ => [], fun _ => true, o14⟩
def M14 : Meet S14 := MR _ _
def L14 (a : AR) (lb : List B) (g : Nat) (k : Nat) (_ : St regK.T) : Option (LoopI regK.T Nat) := match Nat.beq k 3 with
  | true => some ⟨{ i : Nat // i ≤ a.qs.length ∧ i ≤ 16 }, fun i => ⟨[(1, .ptr 0 0 0), (2, .ptr 1 0 0), (3, .ptr 2 0 0), (4, ki (i.1 : Nat))], [(0, .rows 2 [[ki a.l, .d (.sl 58 a.qs)]]), (1, noRow), (2, .rows 2 [[.d (.sl 9 lb), .d (.sl 46 (mkQs lb.length a.qs i.1))]])], 3⟩, fun i => a.qs.length - i.1, fun i => i.1⟩
  | false => (match Nat.beq k 7 with
    | true => some ⟨{ k : Nat // k ≤ (a.qs.getD g rqd).names.length ∧ k ≤ 4 }, fun k => ⟨[(1, .ptr 0 0 0), (2, .ptr 1 0 0), (3, .ptr 2 0 0), (4, ki (g : Nat)), (5, .ptr 3 0 0), (6, ki (k.1 : Nat))],
        [(0, .rows 2 [[ki a.l, .d (.sl 58 a.qs)]]), (1, noRow), (2, .rows 2 [[.d (.sl 9 lb), .d (.sl 46 (mkQs lb.length a.qs g))]]), (3, .rows 3 [[ks (pathM (a.qs.getD g rqd).names k.1), .d .nils, ki (wi (a.qs.getD g rqd).user 1000000)]])], 4⟩, fun k => (a.qs.getD g rqd).names.length - k.1, fun _ => g⟩
    | false => (match Nat.beq k 11 with
      | true => some ⟨{ k : Nat // k ≤ lb.length }, fun k => ⟨[(1, .ptr 0 0 0), (2, .ptr 1 0 0), (3, .ptr 2 0 0), (4, ki (g : Nat)), (5, .ptr 3 0 0), (7, ki (k.1 : Nat))],
          [(0, .rows 2 [[ki a.l, .d (.sl 58 a.qs)]]), (1, noRow), (2, .rows 2 [[.d (.sl 9 lb), .d (.sl 46 (mkQs lb.length a.qs g))]]), (3, .rows 3 [[ks (pathM (a.qs.getD g rqd).names (min (a.qs.getD g rqd).names.length 4)), .sl 4 0 (mkCaps (a.qs.getD g rqd).caps k.1).length (.least 0), ki (wi (a.qs.getD g rqd).user 1000000)]]), (4, .trows 48 (mkCaps (a.qs.getD g rqd).caps k.1))], 5⟩, fun k => lb.length - k.1, fun _ => g⟩
      | false => none))
def J14 (a : AR) (lb : List B) (g : Nat) (k : Nat) : Option (LoopI regK.T Nat) := match Nat.beq k 10 with
  | true => some ⟨{ _u : Nat // g < a.qs.length ∧ g < 16 }, fun _ => ⟨[(1, .ptr 0 0 0), (2, .ptr 1 0 0), (3, .ptr 2 0 0), (4, ki (g : Nat)), (5, .ptr 3 0 0)],
        [(0, .rows 2 [[ki a.l, .d (.sl 58 a.qs)]]), (1, noRow), (2, .rows 2 [[.d (.sl 9 lb), .d (.sl 46 (mkQs lb.length a.qs g))]]), (3, .rows 3 [[ks (pathM (a.qs.getD g rqd).names (min (a.qs.getD g rqd).names.length 4)), .d .nils, ki (wi (a.qs.getD g rqd).user 1000000)]])], 4⟩, fun _ => 0, fun _ => g⟩
  | false => none
def A14 (k : Nat) : List Tgt := (lookN [(1, [.fcell 3 0 0]), (10, [.ncell 3 0 1 48])] k).getD []
/-! ### Text -/
def K29 : Con regK.T := fun f => lookN [(22, (SI (p22 7) (q22 7)).con (MI (p22 7) (q22 7)))] f
theorem K29_ok : ConOk Tryd.prog K29 := con_cons (a22 7 (by decide)) con_nil
noncomputable def e29 : Hd regK.T := hdT regK Tryd.prog K29 (fun _ => false) 1000 5
theorem e29_sound : HdSound Tryd.prog e29 := hdT_sound mixed hno K29_ok _ _ _
structure AT where
  la : List B
  qs : List Qu
def fitC (c : Cp) : Bool := p22 7 c.least && p22 7 c.most
def fitQ (q : Qu) : Bool := Nat.ble q.path.length 100 && Nat.ble q.caps.length 10 && p22 7 q.user && q.caps.all fitC
def AT.fine (a : AT) : Bool := Nat.ble a.la.length 10 && (a.la.all fun l => Nat.ble l.length 100) && Nat.ble a.qs.length 20 && a.qs.all fitQ
def txL (la : List B) : Nat → B
  | 0 => wLabels
  | k + 1 => txL la k ++ [32] ++ la.getD (k + 1) []
def txC (cs : List Cp) (a : B) : Nat → B
  | 0 => a
  | k + 1 => txC cs a k ++ [32] ++ decN 7 (cs.getD k cd).least ++ [47] ++ decN 7 (cs.getD k cd).most
def qHead (a : B) (q : Qu) : B := a ++ [113, 117, 101, 117, 101, 32] ++ q.path ++ [32] ++ decN 7 q.user
def txQ (qs : List Qu) (a : B) : Nat → B
  | 0 => a
  | k + 1 => txC (qs.getD k qd).caps (qHead (txQ qs a k) (qs.getD k qd)) (qs.getD k qd).caps.length ++ [10]
def txA (la : List B) : B := txL la (la.length - 1) ++ [10]
def textR (la : List B) (qs : List Qu) : B := txQ qs (txA la) qs.length
def S13 : Go.W.Spec regK.T := ⟨AT, fun a => [.agg [.d (.sl 9 a.la), .d (.sl 46 a.qs)]], fun _ => [], AT.fine, fun a => .ret (ks (textR a.la a.qs), [])⟩
def M13 : Meet S13 where
  find args _ := match args with
    | [.agg [.d l1, .d q1]] => (match lD l1, qD q1 with
      | some a, some b => some (⟨a, b⟩, [])
      | _, _ => none)
    | _ => none
  ok args g a ρ h := by
    split at h
    · split at h
      · rename_i h1 h2
        cases h
        exact ⟨⟨⟨lD_cov h1, qD_cov h2, trivial⟩, trivial⟩, rfl, fun j o' hj => by simp [S13] at hj⟩
      · cases h
    · cases h
def L13 (a : AT) (g : Nat) (k : Nat) (_ : St regK.T) : Option (LoopI regK.T Nat) := match Nat.beq k 3 with
  | true => some ⟨{ k : Nat // k + 1 ≤ a.la.length ∨ k = 0 }, fun k => ⟨[(1, .ptr 0 0 0), (3, ks (txL a.la k.1)), (4, ki (k.1 + 1 : Nat))], [(0, .rows 2 [[.d (.sl 9 a.la), .d (.sl 46 a.qs)]])], 1⟩, fun k => a.la.length - k.1, fun _ => 0⟩
  | false => (match Nat.beq k 8 with
    | true => some ⟨{ i : Nat // i ≤ a.qs.length }, fun i => ⟨[(1, .ptr 0 0 0), (3, ks (txQ a.qs (txA a.la) i.1)), (5, ki (i.1 : Nat))], [(0, .rows 2 [[.d (.sl 9 a.la), .d (.sl 46 a.qs)]])], 1⟩, fun i => a.qs.length - i.1, fun i => i.1⟩
    | false => (match Nat.beq k 13 with
      | true => some ⟨{ k : Nat // k ≤ (a.qs.getD g qd).caps.length }, fun k => ⟨[(1, .ptr 0 0 0), (3, ks (txC (a.qs.getD g qd).caps (qHead (txQ a.qs (txA a.la) g) (a.qs.getD g qd)) k.1)), (5, ki (g : Nat)), (6, .ptr 1 0 0), (7, ki (k.1 : Nat))],
          [(0, .rows 2 [[.d (.sl 9 a.la), .d (.sl 46 a.qs)]]), (1, .rows 3 [[ks (a.qs.getD g qd).path, .d (.sl 48 (a.qs.getD g qd).caps), ki (a.qs.getD g qd).user]])], 2⟩, fun k => (a.qs.getD g qd).caps.length - k.1, fun _ => g⟩
      | false => none))
end Go.Proofs.YtaonjbojhikndaaDoor

namespace Go.Proofs.YtaonjbojhikndaaDoor
open Go Go.W
set_option maxRecDepth 100000
def K30 : Con regK.T := fun f => lookN [(11, S11.con M11), (12, S12.con M12), (13, S13.con M13), (14, S14.con M14), (15, S15.con M15), (16, S16.con M16), (17, S17.con (MB sm _)), (18, (SB sm s17).con (MB sm s17)), (19, S19.con M19)] f
noncomputable def e30 : Hd regK.T := hdT regK Tryd.prog K30 (fun _ => false) 1000 5
structure A3 where
  s : B
  r : AR
  cut : Int
  ns : List Int
structure R7 where
  w : B
  k : Nat
structure R9 where
  i : Nat
  xs : List B
structure P9 (x : R9) : Prop where
  i : x.i ≤ 7
  n : x.xs.length = 7
  sm : ∀ t ∈ x.xs, sm t = true
def L3 (_ : Nat) (k : Nat) (_ : St regK.T) : Option (LoopI regK.T Nat) := match Nat.beq k 9 with
  | true => some ⟨{ x : R9 // P9 x }, fun x => ⟨[(11, .sl 0 0 7 (.least 0)), (12, ki (x.1.i : Nat))], [(0, .trows 9 x.1.xs)], 1⟩, fun x => 7 - x.1.i, fun _ => 0⟩
  | false => none
def J3 (a : A3) (_ : Nat) (k : Nat) : Option (LoopI regK.T Nat) := match Nat.beq k 7 with
  | true => some ⟨{ x : R7 // x.k ≤ x.w.length ∧ x.w.length ≤ 100000 ∧ a.s.length ≤ 2500 }, fun x => ⟨[(0, ks a.s), (3, .d (.sl 3 a.ns)), (9, ks x.1.w), (10, ki (x.1.k : Nat))], [], 0⟩, fun _ => 0, fun _ => 0⟩
  | false => none
def YesP (a : A3) : Prop := awpFun regK Tryd.prog e30 1000 (fun _ => []) L3 (J3 a) (0 : Nat) Tryd.f3 [ks a.s, .agg [ki a.r.l, .d (.sl 58 a.r.qs)], ki a.cut, .d (.sl 3 a.ns)] (fun r => yes r.1)
end Go.Proofs.YtaonjbojhikndaaDoor
