/- conf.Text; ConfAgain answers yes. No conditions. -/
import Derived.Test.YtaonjbojhikndaaDoorJf
import Derived.Lib.ItoaLen
namespace Go.Proofs.YtaonjbojhikndaaDoor
open Go Go.W Go.Proofs
set_option maxRecDepth 100000
theorem v20 (a : AT) : (OwesDN e31 (20 : Nat) S20 (fun (_ : Nat) => []) (L20 a) noJ (0 : Nat) a) = ( (∃ (x : { k : Nat // k ≤ a.la.length }), (((0 : Nat) = (0 : Nat) ∧ (0 : Nat) = (0 : Nat)) ∧ tL a.la x.val = [OfNat.ofNat (108 : Nat), OfNat.ofNat (97 : Nat), OfNat.ofNat (98 : Nat), OfNat.ofNat (101 : Nat), OfNat.ofNat (108 : Nat), OfNat.ofNat (115 : Nat)] ∧ d9 a.la = d9 a.la ∧ (↑a.la.length : Int) = (↑a.la.length : Int) ∧ (↑x.val : Int) = (0 : Int) ∧ True) ∧ ((d9 a.la = d9 a.la ∧ d46 a.qs = d46 a.qs ∧ True) ∧ True) ∧ True) ∧ ∀ (x : { k : Nat // k ≤ a.la.length }), branch (decide ((↑x.val : Int) < (↑a.la.length : Int))) (branch (decide ((↑x.val : Int) < (↑a.la.length : Int)) && true && true) (branch (decide ((↑x.val : Int) > (0 : Int))) (branch (((1 : Nat) + List.length (a.la.getD (↑x.val : Int).toNat [])).ble (9223372036854775807 : Nat)) (branch ((List.length (tL a.la x.val) + ([OfNat.ofNat (32 : Nat)] ++ a.la.getD (↑x.val : Int).toNat []).length).ble (9223372036854775807 : Nat)) (∃ (x' : { k : Nat // k ≤ a.la.length }), a.la.length - x'.val < a.la.length - x.val ∧ (((0 : Nat) = (0 : Nat) ∧ (0 : Nat) = (0 : Nat)) ∧ tL a.la x'.val = tL a.la x.val ++ ([OfNat.ofNat (32 : Nat)] ++ a.la.getD (↑x.val : Int).toNat []) ∧ d9 a.la = d9 a.la ∧ (↑a.la.length : Int) = (↑a.la.length : Int) ∧ (↑x'.val : Int) = IntKind.i64.wrap ((↑x.val : Int) + (1 : Int)) ∧ True) ∧ ((d9 a.la = d9 a.la ∧ d46 a.qs = d46 a.qs ∧ True) ∧ True) ∧ True) False) False) (∃ (x' : { k : Nat // k ≤ a.la.length }), a.la.length - x'.val < a.la.length - x.val ∧ (((0 : Nat) = (0 : Nat) ∧ (0 : Nat) = (0 : Nat)) ∧ tL a.la x'.val = tL a.la x.val ∧ d9 a.la = d9 a.la ∧ (↑a.la.length : Int) = (↑a.la.length : Int) ∧ (↑x'.val : Int) = IntKind.i64.wrap ((↑x.val : Int) + (1 : Int)) ∧ True) ∧ ((d9 a.la = d9 a.la ∧ d46 a.qs = d46 a.qs ∧ True) ∧ True) ∧ True)) False) (branch ((List.length (tL a.la x.val) + (1 : Nat)).ble (9223372036854775807 : Nat)) ((∃ (x_1 : { i : Nat // i ≤ a.qs.length }), (((0 : Nat) = (0 : Nat) ∧ (0 : Nat) = (0 : Nat)) ∧ tQ a.qs (tA a.la) x_1.val = tL a.la x.val ++ [OfNat.ofNat (10 : Nat)] ∧ d46 a.qs = d46 a.qs ∧ (↑a.qs.length : Int) = (↑a.qs.length : Int) ∧ (↑x_1.val : Int) = (0 : Int) ∧ True) ∧ ((d9 a.la = d9 a.la ∧ d46 a.qs = d46 a.qs ∧ True) ∧ True) ∧ True) ∧ ∀ (x : { i : Nat // i ≤ a.qs.length }), branch (decide ((↑x.val : Int) < (↑a.qs.length : Int))) (branch (decide ((↑x.val : Int) < (↑a.qs.length : Int)) && true && true) (branch (((6 : Nat) + List.length (a.qs.getD (↑x.val : Int).toNat (Qu.mk [] [] (0 : Int))).path).ble (9223372036854775807 : Nat)) (branch ((([OfNat.ofNat (113 : Nat), OfNat.ofNat (117 : Nat), OfNat.ofNat (101 : Nat), OfNat.ofNat (117 : Nat), OfNat.ofNat (101 : Nat), OfNat.ofNat (32 : Nat)] ++ (a.qs.getD (↑x.val : Int).toNat (Qu.mk [] [] (0 : Int))).path).length + (1 : Nat)).ble (9223372036854775807 : Nat)) (branch (decide ((-9223372036854775808 : Int) ≤ (a.qs.getD (↑x.val : Int).toNat (Qu.mk [] [] (0 : Int))).user) && decide ((a.qs.getD (↑x.val : Int).toNat
 (Qu.mk [] [] (0 : Int))).user ≤ (9223372036854775807 : Int))) (branch ((([OfNat.ofNat (113 : Nat), OfNat.ofNat (117 : Nat), OfNat.ofNat (101 : Nat), OfNat.ofNat (117 : Nat), OfNat.ofNat (101 : Nat), OfNat.ofNat (32 : Nat)] ++ (a.qs.getD (↑x.val : Int).toNat (Qu.mk [] [] (0 : Int))).path ++ [OfNat.ofNat (32 : Nat)]).length + List.length (numI (a.qs.getD (↑x.val : Int).toNat (Qu.mk [] [] (0 : Int))).user)).ble (9223372036854775807 : Nat)) (branch ((List.length (tQ a.qs (tA a.la) x.val) + ([OfNat.ofNat (113 : Nat), OfNat.ofNat (117 : Nat), OfNat.ofNat (101 : Nat), OfNat.ofNat (117 : Nat), OfNat.ofNat (101 : Nat), OfNat.ofNat (32 : Nat)] ++ (a.qs.getD (↑x.val : Int).toNat (Qu.mk [] [] (0 : Int))).path ++ [OfNat.ofNat (32 : Nat)] ++ numI (a.qs.getD (↑x.val : Int).toNat (Qu.mk [] [] (0 : Int))).user).length).ble (9223372036854775807 : Nat)) ((∃ (x_1 : { k : Nat // k ≤ (a.qs.getD x.val qd).caps.length }), (((0 : Nat) = (0 : Nat) ∧ (0 : Nat) = (0 : Nat)) ∧ tC (a.qs.getD x.val qd).caps (qH (tQ a.qs (tA a.la) x.val) (a.qs.getD x.val qd)) x_1.val = tQ a.qs (tA a.la) x.val ++ ([OfNat.ofNat (113 : Nat), OfNat.ofNat (117 : Nat), OfNat.ofNat (101 : Nat), OfNat.ofNat (117 : Nat), OfNat.ofNat (101 : Nat), OfNat.ofNat (32 : Nat)] ++ (a.qs.getD (↑x.val : Int).toNat (Qu.mk [] [] (0 : Int))).path ++ [OfNat.ofNat (32 : Nat)] ++ numI (a.qs.getD (↑x.val : Int).toNat (Qu.mk [] [] (0 : Int))).user) ∧ d46 a.qs = d46 a.qs ∧ (↑a.qs.length : Int) = (↑a.qs.length : Int) ∧ (↑x.val : Int) = (↑x.val : Int) ∧ d48 (a.qs.getD x.val qd).caps = d48 (a.qs.getD (↑x.val : Int).toNat (Qu.mk [] [] (0 : Int))).caps ∧ (↑(a.qs.getD x.val qd).caps.length : Int) = (↑(a.qs.getD (↑x.val : Int).toNat (Qu.mk [] [] (0 : Int))).caps.length : Int) ∧ (↑x_1.val : Int) = (0 : Int) ∧ True) ∧ ((d9 a.la = d9 a.la ∧ d46 a.qs = d46 a.qs ∧ True) ∧ True) ∧ True) ∧ ∀ (x_1 : { k : Nat // k ≤ (a.qs.getD x.val qd).caps.length }), branch (decide ((↑x_1.val : Int) < (↑(a.qs.getD x.val qd).caps.length : Int))) (branch (decide ((↑x_1.val : Int) < (↑(a.qs.getD x.val qd).caps.length : Int)) && true && true) (branch (decide ((-9223372036854775808 : Int) ≤ ((a.qs.getD x.val qd).caps.getD (↑x_1.val : Int).toNat (Cp.mk (0 : Int) (0 : Int))).least) && decide (((a.qs.getD x.val qd).caps.getD (↑x_1.val : Int).toNat (Cp.mk (0 : Int) (0 : Int))).least ≤ (9223372036854775807 : Int))) (branch (((1 : Nat) + List.length (numI ((a.qs.getD x.val qd).caps.getD (↑x_1.val : Int).toNat (Cp.mk (0 : Int) (0 : Int))).least)).ble (9223372036854775807 : Nat)) (branch ((([OfNat.ofNat (32 : Nat)] ++ numI ((a.qs.getD x.val qd).caps.getD (↑x_1.val : Int).toNat (Cp.mk (0 : Int) (0 : Int))).least).length + (1 : Nat)).ble (9223372036854775807 : Nat)) (branch (decide ((-9223372036854775808 : Int) ≤ ((a.qs.getD x.val qd).caps.getD (↑x_1.val : Int).toNat (Cp.mk (0 : Int) (0 : Int))).most) && decide (((a.qs.getD x.val qd).caps.getD (↑x_1.val : Int).toNat (Cp.mk (0 : Int) (0 : Int))).most ≤ (9223372036854775807 : Int))) (branch ((([OfNat.ofNat (32 : Nat)]
 ++ numI ((a.qs.getD x.val qd).caps.getD (↑x_1.val : Int).toNat (Cp.mk (0 : Int) (0 : Int))).least ++ [OfNat.ofNat (47 : Nat)]).length + List.length (numI ((a.qs.getD x.val qd).caps.getD (↑x_1.val : Int).toNat (Cp.mk (0 : Int) (0 : Int))).most)).ble (9223372036854775807 : Nat)) (branch ((List.length (tC (a.qs.getD x.val qd).caps (qH (tQ a.qs (tA a.la) x.val) (a.qs.getD x.val qd)) x_1.val) + ([OfNat.ofNat (32 : Nat)] ++ numI ((a.qs.getD x.val qd).caps.getD (↑x_1.val : Int).toNat (Cp.mk (0 : Int) (0 : Int))).least ++ [OfNat.ofNat (47 : Nat)] ++ numI ((a.qs.getD x.val qd).caps.getD (↑x_1.val : Int).toNat (Cp.mk (0 : Int) (0 : Int))).most).length).ble (9223372036854775807 : Nat)) (∃ (x' : { k : Nat // k ≤ (a.qs.getD x.val qd).caps.length }), (a.qs.getD x.val qd).caps.length - x'.val < (a.qs.getD x.val qd).caps.length - x_1.val ∧ (((0 : Nat) = (0 : Nat) ∧ (0 : Nat) = (0 : Nat)) ∧ tC (a.qs.getD x.val qd).caps (qH (tQ a.qs (tA a.la) x.val) (a.qs.getD x.val qd)) x'.val = tC (a.qs.getD x.val qd).caps (qH (tQ a.qs (tA a.la) x.val) (a.qs.getD x.val qd)) x_1.val ++ ([OfNat.ofNat (32 : Nat)] ++ numI ((a.qs.getD x.val qd).caps.getD (↑x_1.val : Int).toNat (Cp.mk (0 : Int) (0 : Int))).least ++ [OfNat.ofNat (47 : Nat)] ++ numI ((a.qs.getD x.val qd).caps.getD (↑x_1.val : Int).toNat (Cp.mk (0 : Int) (0 : Int))).most) ∧ d46 a.qs = d46 a.qs ∧ (↑a.qs.length : Int) = (↑a.qs.length : Int) ∧ (↑x.val : Int) = (↑x.val : Int) ∧ d48 (a.qs.getD x.val qd).caps = d48 (a.qs.getD x.val qd).caps ∧ (↑(a.qs.getD x.val qd).caps.length : Int) = (↑(a.qs.getD x.val qd).caps.length : Int) ∧ (↑x'.val : Int) = IntKind.i64.wrap ((↑x_1.val : Int) + (1 : Int)) ∧ True) ∧ ((d9 a.la = d9 a.la ∧ d46 a.qs = d46 a.qs ∧ True) ∧ True) ∧ True) False) False) False) False) False) False) False) (branch ((List.length (tC (a.qs.getD x.val qd).caps (qH (tQ a.qs (tA a.la) x.val) (a.qs.getD x.val qd)) x_1.val) + (1 : Nat)).ble (9223372036854775807 : Nat)) (∃ (x' : { i : Nat // i ≤ a.qs.length }), a.qs.length - x'.val < a.qs.length - x.val ∧ (((0 : Nat) = (0 : Nat) ∧ (0 : Nat) = (0 : Nat)) ∧ tQ a.qs (tA a.la) x'.val = tC (a.qs.getD x.val qd).caps (qH (tQ a.qs (tA a.la) x.val) (a.qs.getD x.val qd)) x_1.val ++ [OfNat.ofNat (10 : Nat)] ∧ d46 a.qs = d46 a.qs ∧ (↑a.qs.length : Int) = (↑a.qs.length : Int) ∧ (↑x'.val : Int) = IntKind.i64.wrap ((↑x.val : Int) + (1 : Int)) ∧ True) ∧ ((d9 a.la = d9 a.la ∧ d46 a.qs = d46 a.qs ∧ True) ∧ True) ∧ True) False)) False) False) False) False) False) False) (textI a.la a.qs = tQ a.qs (tA a.la) x.val ∧ True)) False)) := by kernel_rfl
theorem v8a (a : A3) : (YesA a) = ( branch (!fewM a.r) (true = true) (branch (S20.pre (AT.mk (labM a.r.l) (makeQ a.r))) (branch (S15.pre (a.cut, IntKind.i64.wrap ((↑(List.length (textI (labM a.r.l) (makeQ a.r))) : Int) + (1 : Int)))) (∃ (x : { x : R7 // x.k ≤ List.length x.w ∧ List.length x.w ≤ (100000 : Nat) }), (d3 a.ns = d3 a.ns ∧ x.val.w = textI (labM a.r.l) (makeQ a.r) ∧ (↑x.val.k : Int) = wi a.cut (IntKind.i64.wrap ((↑(List.length (textI (labM a.r.l) (makeQ a.r))) : Int) + (1 : Int))) ∧ True) ∧ True) False ∧ ∀ (x : { x : R7 // x.k ≤ List.length x.w ∧ List.length x.w ≤ (100000 : Nat) }), branch (((7 : Nat) + List.length (mixN a.ns)).ble (9223372036854775807 : Nat)) (branch (decide ((↑x.val.k : Int) ≤ (↑(List.length x.val.w) : Int))) (branch (((List.drop (0 : Nat) (List.take (↑x.val.k : Int).toNat x.val.w)).length + List.length (mixN a.ns)).ble (9223372036854775807 : Nat)) (branch (decide ((↑x.val.k : Int) ≤ (↑(List.length x.val.w) : Int)) && decide ((↑(List.length x.val.w) : Int) ≤ (↑(List.length x.val.w) : Int))) (branch (((List.drop (0 : Nat) (List.take (↑x.val.k : Int).toNat x.val.w) ++ mixN a.ns).length + (List.drop (↑x.val.k : Int).toNat (List.take (↑(List.length x.val.w) : Int).toNat x.val.w)).length).ble (9223372036854775807 : Nat)) (branch (decide ((↑x.val.k : Int) ≤ (↑(List.length x.val.w) : Int))) ((∃ (x_1 : { x : R9 // P8 x }), (((0 : Nat) = (0 : Nat) ∧ (3 : Nat) = (3 : Nat) ∧ Nat.le (0 : Nat) (3 : Nat)) ∧ (↑x_1.val.i : Int) = (0 : Int) ∧ True) ∧ o9 x_1.val.xs = o9 ([] ++ [([OfNat.ofNat (108 : Nat), OfNat.ofNat (97 : Nat), OfNat.ofNat (98 : Nat), OfNat.ofNat (101 : Nat), OfNat.ofNat (108 : Nat), OfNat.ofNat (115 : Nat), OfNat.ofNat (10 : Nat)] : List UInt8) ++ mixN a.ns, List.drop (0 : Nat) (List.take (↑x.val.k : Int).toNat x.val.w) ++ mixN a.ns ++ List.drop (↑x.val.k : Int).toNat (List.take (↑(List.length x.val.w) : Int).toNat x.val.w), List.drop (0 : Nat) (List.take (↑x.val.k : Int).toNat x.val.w)]) ∧ True) ∧ ∀ (x : { x : R9 // P8 x }), branch (decide ((↑x.val.i : Int) < (3 : Int))) (branch (decide ((↑x.val.i : Int) < (3 : Int))) (branch (((0 : Nat) + (↑x.val.i : Int).toNat).blt x.val.xs.length) (branch (S17.pre (x.val.xs.getD ((0 : Nat) + (↑x.val.i : Int).toNat) [])) (branch ((parseM (x.val.xs.getD ((0 : Nat) + (↑x.val.i : Int).toNat) [])).err != (0 : Int)) (∃ (x' : { x : R9 // P8 x }), (3 : Nat) - x'.val.i < (3 : Nat) - x.val.i ∧ (((0 : Nat) = (0 : Nat) ∧ (3 : Nat) = (3 : Nat) ∧ Nat.le (0 : Nat) (0 : Nat)) ∧ (↑x'.val.i : Int) = IntKind.i64.wrap ((↑x.val.i : Int) + (1 : Int)) ∧ True) ∧ o9 x'.val.xs = o9 x.val.xs ∧ True) (branch (S20.pre (AT.mk (parseM (x.val.xs.getD ((0 : Nat) + (↑x.val.i : Int).toNat) [])).labels (parseM (x.val.xs.getD ((0 : Nat) + (↑x.val.i : Int).toNat) [])).qs)) (branch (S17.pre (textI (parseM (x.val.xs.getD ((0 : Nat) + (↑x.val.i : Int).toNat) [])).labels (parseM (x.val.xs.getD ((0 : Nat) + (↑x.val.i : Int).toNat) [])).qs)) (branch ((parseM (textI (parseM (x.val.xs.getD ((0 : Nat) + (↑x.val.i : Int).toNat)
 [])).labels (parseM (x.val.xs.getD ((0 : Nat) + (↑x.val.i : Int).toNat) [])).qs)).err != (0 : Int)) (branch ((parseM (textI (parseM (x.val.xs.getD ((0 : Nat) + (↑x.val.i : Int).toNat) [])).labels (parseM (x.val.xs.getD ((0 : Nat) + (↑x.val.i : Int).toNat) [])).qs)).err != (5 : Int)) (false = true) (branch ((parseM (textI (parseM (x.val.xs.getD ((0 : Nat) + (↑x.val.i : Int).toNat) [])).labels (parseM (x.val.xs.getD ((0 : Nat) + (↑x.val.i : Int).toNat) [])).qs)).err == (0 : Int)) (branch (S19.pre (ASm.mk (parseM (x.val.xs.getD ((0 : Nat) + (↑x.val.i : Int).toNat) [])).labels (parseM (x.val.xs.getD ((0 : Nat) + (↑x.val.i : Int).toNat) [])).qs (parseM (textI (parseM (x.val.xs.getD ((0 : Nat) + (↑x.val.i : Int).toNat) [])).labels (parseM (x.val.xs.getD ((0 : Nat) + (↑x.val.i : Int).toNat) [])).qs)).labels (parseM (textI (parseM (x.val.xs.getD ((0 : Nat) + (↑x.val.i : Int).toNat) [])).labels (parseM (x.val.xs.getD ((0 : Nat) + (↑x.val.i : Int).toNat) [])).qs)).qs)) (branch (!sameM (ASm.mk (parseM (x.val.xs.getD ((0 : Nat) + (↑x.val.i : Int).toNat) [])).labels (parseM (x.val.xs.getD ((0 : Nat) + (↑x.val.i : Int).toNat) [])).qs (parseM (textI (parseM (x.val.xs.getD ((0 : Nat) + (↑x.val.i : Int).toNat) [])).labels (parseM (x.val.xs.getD ((0 : Nat) + (↑x.val.i : Int).toNat) [])).qs)).labels (parseM (textI (parseM (x.val.xs.getD ((0 : Nat) + (↑x.val.i : Int).toNat) [])).labels (parseM (x.val.xs.getD ((0 : Nat) + (↑x.val.i : Int).toNat) [])).qs)).qs)) (false = true) (∃ (x' : { x : R9 // P8 x }), (3 : Nat) - x'.val.i < (3 : Nat) - x.val.i ∧ (((0 : Nat) = (0 : Nat) ∧ (3 : Nat) = (3 : Nat) ∧ Nat.le (0 : Nat) (0 : Nat)) ∧ (↑x'.val.i : Int) = IntKind.i64.wrap ((↑x.val.i : Int) + (1 : Int)) ∧ True) ∧ o9 x'.val.xs = o9 x.val.xs ∧ True)) False) (∃ (x' : { x : R9 // P8 x }), (3 : Nat) - x'.val.i < (3 : Nat) - x.val.i ∧ (((0 : Nat) = (0 : Nat) ∧ (3 : Nat) = (3 : Nat) ∧ Nat.le (0 : Nat) (0 : Nat)) ∧ (↑x'.val.i : Int) = IntKind.i64.wrap ((↑x.val.i : Int) + (1 : Int)) ∧ True) ∧ o9 x'.val.xs = o9 x.val.xs ∧ True))) (branch ((parseM (textI (parseM (x.val.xs.getD ((0 : Nat) + (↑x.val.i : Int).toNat) [])).labels (parseM (x.val.xs.getD ((0 : Nat) + (↑x.val.i : Int).toNat) [])).qs)).err == (0 : Int)) (branch (S19.pre (ASm.mk (parseM (x.val.xs.getD ((0 : Nat) + (↑x.val.i : Int).toNat) [])).labels (parseM (x.val.xs.getD ((0 : Nat) + (↑x.val.i : Int).toNat) [])).qs (parseM (textI (parseM (x.val.xs.getD ((0 : Nat) + (↑x.val.i : Int).toNat) [])).labels (parseM (x.val.xs.getD ((0 : Nat) + (↑x.val.i : Int).toNat) [])).qs)).labels (parseM (textI (parseM (x.val.xs.getD ((0 : Nat) + (↑x.val.i : Int).toNat) [])).labels (parseM (x.val.xs.getD ((0 : Nat) + (↑x.val.i : Int).toNat) [])).qs)).qs)) (branch (!sameM (ASm.mk (parseM (x.val.xs.getD ((0 : Nat) + (↑x.val.i : Int).toNat) [])).labels (parseM (x.val.xs.getD ((0 : Nat) + (↑x.val.i : Int).toNat) [])).qs (parseM (textI (parseM (x.val.xs.getD ((0 : Nat) + (↑x.val.i : Int).toNat) [])).labels (parseM (x.val.xs.getD ((0 : Nat) + (↑x.val.i :
 Int).toNat) [])).qs)).labels (parseM (textI (parseM (x.val.xs.getD ((0 : Nat) + (↑x.val.i : Int).toNat) [])).labels (parseM (x.val.xs.getD ((0 : Nat) + (↑x.val.i : Int).toNat) [])).qs)).qs)) (false = true) (∃ (x' : { x : R9 // P8 x }), (3 : Nat) - x'.val.i < (3 : Nat) - x.val.i ∧ (((0 : Nat) = (0 : Nat) ∧ (3 : Nat) = (3 : Nat) ∧ Nat.le (0 : Nat) (0 : Nat)) ∧ (↑x'.val.i : Int) = IntKind.i64.wrap ((↑x.val.i : Int) + (1 : Int)) ∧ True) ∧ o9 x'.val.xs = o9 x.val.xs ∧ True)) False) (∃ (x' : { x : R9 // P8 x }), (3 : Nat) - x'.val.i < (3 : Nat) - x.val.i ∧ (((0 : Nat) = (0 : Nat) ∧ (3 : Nat) = (3 : Nat) ∧ Nat.le (0 : Nat) (0 : Nat)) ∧ (↑x'.val.i : Int) = IntKind.i64.wrap ((↑x.val.i : Int) + (1 : Int)) ∧ True) ∧ o9 x'.val.xs = o9 x.val.xs ∧ True))) False) False)) False) False) False) (true = true)) False) False) False) False) False) False) False)) := by kernel_rfl
theorem v7b (r : AR) (ns : List Int) : (YesB r ns) = ( branch (!fewM r) (true = true) (branch (S20.pre (AT.mk (labM r.l) (makeQ r))) (∃ (x : { t : B // IsText t }), (d3 ns = d3 ns ∧ x.val = textI (labM r.l) (makeQ r) ∧ True) ∧ True) False ∧ ∀ (x : { t : B // IsText t }), ((∃ (x_1 : { x_1 : R77 // P77 x.val ns x_1 }), (d3 ns = d3 ns ∧ x.val = x.val ∧ x_1.val.s = [] ∧ (↑x_1.val.k : Int) = (0 : Int) ∧ (↑x_1.val.i : Int) = (0 : Int) ∧ True) ∧ True) ∧ ∀ (x_1 : { x_1 : R77 // P77 x.val ns x_1 }), branch (decide ((↑x_1.val.i : Int) < (↑(List.length x.val) : Int))) (branch (decide ((↑x_1.val.i : Int) ≤ IntKind.i64.wrap ((↑x_1.val.i : Int) + (1 : Int))) && decide (IntKind.i64.wrap ((↑x_1.val.i : Int) + (1 : Int)) ≤ (↑(List.length x.val) : Int))) (branch ((List.length x_1.val.s + (List.drop (↑x_1.val.i : Int).toNat (List.take (IntKind.i64.wrap ((↑x_1.val.i : Int) + (1 : Int))).toNat x.val)).length).ble (9223372036854775807 : Nat)) (branch (decide ((↑x_1.val.i : Int) < (↑(List.length x.val) : Int))) (branch ((↑(List.getD x.val (↑x_1.val.i : Int).toNat (OfNat.ofNat (0 : Nat))).toNat : Int) == (32 : Int)) (branch (decide ((↑x_1.val.k : Int) < (↑ns.length : Int))) (branch (decide ((↑x_1.val.k : Int) < (↑ns.length : Int)) && true && true) (branch (decide ((0 : Int) ≤ wi (ns.getD (↑x_1.val.k : Int).toNat (0 : Int)) (3 : Int)) && decide (wi (ns.getD (↑x_1.val.k : Int).toNat (0 : Int)) (3 : Int) < (3 : Int))) (branch (((0 : Nat) + (wi (ns.getD (↑x_1.val.k : Int).toNat (0 : Int)) (3 : Int)).toNat).blt (3 : Nat)) (branch (((x_1.val.s ++ List.drop (↑x_1.val.i : Int).toNat (List.take (IntKind.i64.wrap ((↑x_1.val.i : Int) + (1 : Int))).toNat x.val)).length + List.length ([([] : List UInt8), [OfNat.ofNat (32 : Nat)], [OfNat.ofNat (32 : Nat), OfNat.ofNat (32 : Nat), OfNat.ofNat (32 : Nat)]].getD ((0 : Nat) + (wi (ns.getD (↑x_1.val.k : Int).toNat (0 : Int)) (3 : Int)).toNat) [])).ble (9223372036854775807 : Nat)) (branch (decide ((↑x_1.val.i : Int) < (↑(List.length x.val) : Int))) (branch ((↑(List.getD x.val (↑x_1.val.i : Int).toNat (OfNat.ofNat (0 : Nat))).toNat : Int) == (10 : Int)) (branch (decide ((↑x_1.val.k : Int) < (↑ns.length : Int)) && true && true) (branch (decide ((0 : Int) ≤ wi (IntKind.i64.wrap (Int.tdiv (ns.getD (↑x_1.val.k : Int).toNat (0 : Int)) (3 : Int))) (3 : Int)) && decide (wi (IntKind.i64.wrap (Int.tdiv (ns.getD (↑x_1.val.k : Int).toNat (0 : Int)) (3 : Int))) (3 : Int) < (3 : Int))) (branch (((0 : Nat) + (wi (IntKind.i64.wrap (Int.tdiv (ns.getD (↑x_1.val.k : Int).toNat (0 : Int)) (3 : Int))) (3 : Int)).toNat).blt (3 : Nat)) (branch (((x_1.val.s ++ List.drop (↑x_1.val.i : Int).toNat (List.take (IntKind.i64.wrap ((↑x_1.val.i : Int) + (1 : Int))).toNat x.val) ++ [([] : List UInt8), [OfNat.ofNat (32 : Nat)], [OfNat.ofNat (32 : Nat), OfNat.ofNat (32 : Nat), OfNat.ofNat (32 : Nat)]].getD ((0 : Nat) + (wi (ns.getD (↑x_1.val.k : Int).toNat (0 : Int)) (3 : Int)).toNat) []).length + List.length ([([] : List UInt8), [OfNat.ofNat (10 : Nat)], [OfNat.ofNat (32 :
 Nat), OfNat.ofNat (32 : Nat), OfNat.ofNat (10 : Nat), OfNat.ofNat (10 : Nat)]].getD ((0 : Nat) + (wi (IntKind.i64.wrap (Int.tdiv (ns.getD (↑x_1.val.k : Int).toNat (0 : Int)) (3 : Int))) (3 : Int)).toNat) [])).ble (9223372036854775807 : Nat)) (∃ (x_2 : { x_2 : R77 // P77 x.val ns (R77.mk (x_2.i + (1 : Nat)) x_2.k x_2.s) ∧ x_2.i < List.length x.val ∧ x_2.i = x_1.val.i }), (d3 ns = d3 ns ∧ x.val = x.val ∧ x_2.val.s = x_1.val.s ++ List.drop (↑x_1.val.i : Int).toNat (List.take (IntKind.i64.wrap ((↑x_1.val.i : Int) + (1 : Int))).toNat x.val) ++ [([] : List UInt8), [OfNat.ofNat (32 : Nat)], [OfNat.ofNat (32 : Nat), OfNat.ofNat (32 : Nat), OfNat.ofNat (32 : Nat)]].getD ((0 : Nat) + (wi (ns.getD (↑x_1.val.k : Int).toNat (0 : Int)) (3 : Int)).toNat) [] ++ [([] : List UInt8), [OfNat.ofNat (10 : Nat)], [OfNat.ofNat (32 : Nat), OfNat.ofNat (32 : Nat), OfNat.ofNat (10 : Nat), OfNat.ofNat (10 : Nat)]].getD ((0 : Nat) + (wi (IntKind.i64.wrap (Int.tdiv (ns.getD (↑x_1.val.k : Int).toNat (0 : Int)) (3 : Int))) (3 : Int)).toNat) [] ∧ (↑x_2.val.k : Int) = IntKind.i64.wrap ((↑x_1.val.k : Int) + (1 : Int)) ∧ (↑x_2.val.i : Int) = (↑x_1.val.i : Int) ∧ True) ∧ True) False) False) False) False) (∃ (x_2 : { x_2 : R77 // P77 x.val ns (R77.mk (x_2.i + (1 : Nat)) x_2.k x_2.s) ∧ x_2.i < List.length x.val ∧ x_2.i = x_1.val.i }), (d3 ns = d3 ns ∧ x.val = x.val ∧ x_2.val.s = x_1.val.s ++ List.drop (↑x_1.val.i : Int).toNat (List.take (IntKind.i64.wrap ((↑x_1.val.i : Int) + (1 : Int))).toNat x.val) ++ [([] : List UInt8), [OfNat.ofNat (32 : Nat)], [OfNat.ofNat (32 : Nat), OfNat.ofNat (32 : Nat), OfNat.ofNat (32 : Nat)]].getD ((0 : Nat) + (wi (ns.getD (↑x_1.val.k : Int).toNat (0 : Int)) (3 : Int)).toNat) [] ∧ (↑x_2.val.k : Int) = IntKind.i64.wrap ((↑x_1.val.k : Int) + (1 : Int)) ∧ (↑x_2.val.i : Int) = (↑x_1.val.i : Int) ∧ True) ∧ True)) False) False) False) False) False) (∃ (x_2 : { x_2 : R77 // P77 x.val ns (R77.mk (x_2.i + (1 : Nat)) x_2.k x_2.s) ∧ x_2.i < List.length x.val ∧ x_2.i = x_1.val.i }), (d3 ns = d3 ns ∧ x.val = x.val ∧ x_2.val.s = x_1.val.s ++ List.drop (↑x_1.val.i : Int).toNat (List.take (IntKind.i64.wrap ((↑x_1.val.i : Int) + (1 : Int))).toNat x.val) ∧ (↑x_2.val.k : Int) = (↑x_1.val.k : Int) ∧ (↑x_2.val.i : Int) = (↑x_1.val.i : Int) ∧ True) ∧ True)) (branch (decide ((↑x_1.val.i : Int) < (↑(List.length x.val) : Int))) (branch ((↑(List.getD x.val (↑x_1.val.i : Int).toNat (OfNat.ofNat (0 : Nat))).toNat : Int) == (10 : Int)) (branch (decide ((↑x_1.val.k : Int) < (↑ns.length : Int))) (branch (decide ((↑x_1.val.k : Int) < (↑ns.length : Int)) && true && true) (branch (decide ((0 : Int) ≤ wi (ns.getD (↑x_1.val.k : Int).toNat (0 : Int)) (3 : Int)) && decide (wi (ns.getD (↑x_1.val.k : Int).toNat (0 : Int)) (3 : Int) < (3 : Int))) (branch (((0 : Nat) + (wi (ns.getD (↑x_1.val.k : Int).toNat (0 : Int)) (3 : Int)).toNat).blt (3 : Nat)) (branch (((x_1.val.s ++ List.drop (↑x_1.val.i : Int).toNat (List.take (IntKind.i64.wrap ((↑x_1.val.i : Int) + (1 : Int))).toNat x.val)).length +
 List.length ([([] : List UInt8), [OfNat.ofNat (32 : Nat)], [OfNat.ofNat (32 : Nat), OfNat.ofNat (32 : Nat), OfNat.ofNat (32 : Nat)]].getD ((0 : Nat) + (wi (ns.getD (↑x_1.val.k : Int).toNat (0 : Int)) (3 : Int)).toNat) [])).ble (9223372036854775807 : Nat)) (branch (decide ((↑x_1.val.i : Int) < (↑(List.length x.val) : Int))) (branch ((↑(List.getD x.val (↑x_1.val.i : Int).toNat (OfNat.ofNat (0 : Nat))).toNat : Int) == (10 : Int)) (branch (decide ((↑x_1.val.k : Int) < (↑ns.length : Int)) && true && true) (branch (decide ((0 : Int) ≤ wi (IntKind.i64.wrap (Int.tdiv (ns.getD (↑x_1.val.k : Int).toNat (0 : Int)) (3 : Int))) (3 : Int)) && decide (wi (IntKind.i64.wrap (Int.tdiv (ns.getD (↑x_1.val.k : Int).toNat (0 : Int)) (3 : Int))) (3 : Int) < (3 : Int))) (branch (((0 : Nat) + (wi (IntKind.i64.wrap (Int.tdiv (ns.getD (↑x_1.val.k : Int).toNat (0 : Int)) (3 : Int))) (3 : Int)).toNat).blt (3 : Nat)) (branch (((x_1.val.s ++ List.drop (↑x_1.val.i : Int).toNat (List.take (IntKind.i64.wrap ((↑x_1.val.i : Int) + (1 : Int))).toNat x.val) ++ [([] : List UInt8), [OfNat.ofNat (32 : Nat)], [OfNat.ofNat (32 : Nat), OfNat.ofNat (32 : Nat), OfNat.ofNat (32 : Nat)]].getD ((0 : Nat) + (wi (ns.getD (↑x_1.val.k : Int).toNat (0 : Int)) (3 : Int)).toNat) []).length + List.length ([([] : List UInt8), [OfNat.ofNat (10 : Nat)], [OfNat.ofNat (32 : Nat), OfNat.ofNat (32 : Nat), OfNat.ofNat (10 : Nat), OfNat.ofNat (10 : Nat)]].getD ((0 : Nat) + (wi (IntKind.i64.wrap (Int.tdiv (ns.getD (↑x_1.val.k : Int).toNat (0 : Int)) (3 : Int))) (3 : Int)).toNat) [])).ble (9223372036854775807 : Nat)) (∃ (x_2 : { x_2 : R77 // P77 x.val ns (R77.mk (x_2.i + (1 : Nat)) x_2.k x_2.s) ∧ x_2.i < List.length x.val ∧ x_2.i = x_1.val.i }), (d3 ns = d3 ns ∧ x.val = x.val ∧ x_2.val.s = x_1.val.s ++ List.drop (↑x_1.val.i : Int).toNat (List.take (IntKind.i64.wrap ((↑x_1.val.i : Int) + (1 : Int))).toNat x.val) ++ [([] : List UInt8), [OfNat.ofNat (32 : Nat)], [OfNat.ofNat (32 : Nat), OfNat.ofNat (32 : Nat), OfNat.ofNat (32 : Nat)]].getD ((0 : Nat) + (wi (ns.getD (↑x_1.val.k : Int).toNat (0 : Int)) (3 : Int)).toNat) [] ++ [([] : List UInt8), [OfNat.ofNat (10 : Nat)], [OfNat.ofNat (32 : Nat), OfNat.ofNat (32 : Nat), OfNat.ofNat (10 : Nat), OfNat.ofNat (10 : Nat)]].getD ((0 : Nat) + (wi (IntKind.i64.wrap (Int.tdiv (ns.getD (↑x_1.val.k : Int).toNat (0 : Int)) (3 : Int))) (3 : Int)).toNat) [] ∧ (↑x_2.val.k : Int) = IntKind.i64.wrap ((↑x_1.val.k : Int) + (1 : Int)) ∧ (↑x_2.val.i : Int) = (↑x_1.val.i : Int) ∧ True) ∧ True) False) False) False) False) (∃ (x_2 : { x_2 : R77 // P77 x.val ns (R77.mk (x_2.i + (1 : Nat)) x_2.k x_2.s) ∧ x_2.i < List.length x.val ∧ x_2.i = x_1.val.i }), (d3 ns = d3 ns ∧ x.val = x.val ∧ x_2.val.s = x_1.val.s ++ List.drop (↑x_1.val.i : Int).toNat (List.take (IntKind.i64.wrap ((↑x_1.val.i : Int) + (1 : Int))).toNat x.val) ++ [([] : List UInt8), [OfNat.ofNat (32 : Nat)], [OfNat.ofNat (32 : Nat), OfNat.ofNat (32 : Nat), OfNat.ofNat (32 : Nat)]].getD ((0 : Nat) + (wi (ns.getD (↑x_1.val.k : Int).toNat
 (0 : Int)) (3 : Int)).toNat) [] ∧ (↑x_2.val.k : Int) = IntKind.i64.wrap ((↑x_1.val.k : Int) + (1 : Int)) ∧ (↑x_2.val.i : Int) = (↑x_1.val.i : Int) ∧ True) ∧ True)) False) False) False) False) False) (∃ (x_2 : { x_2 : R77 // P77 x.val ns (R77.mk (x_2.i + (1 : Nat)) x_2.k x_2.s) ∧ x_2.i < List.length x.val ∧ x_2.i = x_1.val.i }), (d3 ns = d3 ns ∧ x.val = x.val ∧ x_2.val.s = x_1.val.s ++ List.drop (↑x_1.val.i : Int).toNat (List.take (IntKind.i64.wrap ((↑x_1.val.i : Int) + (1 : Int))).toNat x.val) ∧ (↑x_2.val.k : Int) = (↑x_1.val.k : Int) ∧ (↑x_2.val.i : Int) = (↑x_1.val.i : Int) ∧ True) ∧ True)) (∃ (x_2 : { x_2 : R77 // P77 x.val ns (R77.mk (x_2.i + (1 : Nat)) x_2.k x_2.s) ∧ x_2.i < List.length x.val ∧ x_2.i = x_1.val.i }), (d3 ns = d3 ns ∧ x.val = x.val ∧ x_2.val.s = x_1.val.s ++ List.drop (↑x_1.val.i : Int).toNat (List.take (IntKind.i64.wrap ((↑x_1.val.i : Int) + (1 : Int))).toNat x.val) ∧ (↑x_2.val.k : Int) = (↑x_1.val.k : Int) ∧ (↑x_2.val.i : Int) = (↑x_1.val.i : Int) ∧ True) ∧ True)) False)) False) False) False ∧ ∀ (x_2 : { x_2 : R77 // P77 x.val ns (R77.mk (x_2.i + (1 : Nat)) x_2.k x_2.s) ∧ x_2.i < List.length x.val ∧ x_2.i = x_1.val.i }), ∃ (x' : { x_3 : R77 // P77 x.val ns x_3 }), List.length x.val - x'.val.i < List.length x.val - x_1.val.i ∧ (d3 ns = d3 ns ∧ x.val = x.val ∧ x'.val.s = x_2.val.s ∧ (↑x'.val.k : Int) = (↑x_2.val.k : Int) ∧ (↑x'.val.i : Int) = IntKind.i64.wrap ((↑x_2.val.i : Int) + (1 : Int)) ∧ True) ∧ True) (∃ (x_2 : { s : B // tokF s = tokF x.val ∧ List.length s ≤ (800000 : Nat) }), (x.val = x.val ∧ x_2.val = x_1.val.s ∧ True) ∧ True)) ∧ ∀ (x_1 : { s : B // tokF s = tokF x.val ∧ List.length s ≤ (800000 : Nat) }), branch (decide ((↑(List.length x_1.val) : Int) > (2000 : Int))) (true = true) (branch (decide ((↑(List.length x.val) : Int) > (2000 : Int))) (true = true) (branch (S17.pre x.val) (branch (S17.pre x_1.val) (branch ((parseM x.val).err == (0 : Int)) (branch ((parseM x_1.val).err == (0 : Int)) (branch (S19.pre (ASm.mk (parseM x.val).labels (parseM x.val).qs (parseM x_1.val).labels (parseM x_1.val).qs)) (sameM (ASm.mk (parseM x.val).labels (parseM x.val).qs (parseM x_1.val).labels (parseM x_1.val).qs) = true) False) (false = true)) (false = true)) False) False)))) := by kernel_rfl

end Go.Proofs.YtaonjbojhikndaaDoor

namespace Go.Proofs.YtaonjbojhikndaaDoor
open Go Go.W
set_option maxRecDepth 100000
/-! ### conf.Text's text is the configuration's -/
theorem heads_snoc (c : UInt8) : ∀ (ws : List B) (x : B), heads c (ws ++ [x]) = heads c ws ++ c :: x
  | [], x => by show c :: (x ++ []) = c :: x; rw [List.append_nil]
  | w :: ws, x => by
    show c :: (w ++ heads c (ws ++ [x])) = c :: (w ++ heads c ws) ++ c :: x
    rw [heads_snoc c ws x]; simp
theorem ends_snoc (c : UInt8) : ∀ (ls : List B) (x : B), ends c (ls ++ [x]) = ends c ls ++ (x ++ [c])
  | [], x => rfl
  | l :: ls, x => by
    show l ++ c :: ends c (ls ++ [x]) = (l ++ c :: ends c ls) ++ (x ++ [c])
    rw [ends_snoc c ls x]; simp
theorem tL_eq (la : List B) : ∀ k, k + 1 ≤ la.length → tL la (k + 1) = wLabels ++ heads 32 ((la.take (k + 1)).drop 1)
  | 0, h => by
    show wLabels = wLabels ++ heads 32 ((la.take 1).drop 1)
    cases la with
    | nil => simp at h
    | cons a l => show wLabels = wLabels ++ []; rw [List.append_nil]
  | k + 1, h => by
    show tL la (k + 1) ++ ([32] ++ la.getD (k + 1) []) = _
    rw [tL_eq la k (by omega), take_snoc' (l := la) [] (by omega : k + 1 < la.length), List.drop_append_of_le_length (by simp; omega), heads_snoc]
    simp
theorem cT_eq {c : Cp} (h : OkN c.least ∧ OkN c.most) : cT c = 32 :: capT c := by
  unfold cT capT
  rw [numI_nonneg h.1.1, numI_nonneg h.2.1]
  simp
theorem tC_eq {cs : List Cp} (h : ∀ c ∈ cs, OkN c.least ∧ OkN c.most) (a : B) : ∀ k, k ≤ cs.length → tC cs a k = a ++ heads 32 ((cs.take k).map capT)
  | 0, _ => by show a = a ++ []; rw [List.append_nil]
  | k + 1, hk => by
    show tC cs a k ++ cT (cs.getD k cd) = _
    rw [tC_eq h a k (by omega), take_snoc' cd (by omega), List.map_append, cT_eq (h _ (by simp [List.getD, show k < cs.length by omega]))]
    show _ = a ++ heads 32 ((cs.take k).map capT ++ [capT (cs.getD k cd)])
    rw [heads_snoc, List.append_assoc]
theorem qH_eq {n : Nat} {q : Qu} (h : GoodQ n q) (a : B) : tC q.caps (qH a q) q.caps.length = a ++ confQ q := by
  rw [tC_eq h.caps _ _ (Nat.le_refl _), List.take_length]
  unfold qH confQ qWords
  rw [numI_nonneg h.user.1]
  show (a ++ ([113, 117, 101, 117, 101, 32] ++ q.path ++ [32] ++ numT q.user)) ++ heads 32 (q.caps.map capT) = a ++ (wQueue ++ 32 :: (q.path ++ 32 :: (numT q.user ++ heads 32 (q.caps.map capT))))
  have : ([113, 117, 101, 117, 101, 32] : B) = wQueue ++ [32] := rfl
  rw [this]
  simp
theorem tQ_eq {n : Nat} {qs : List Qu} (h : ∀ q ∈ qs, GoodQ n q) (a : B) : ∀ k, k ≤ qs.length → tQ qs a k = a ++ ends 10 ((qs.take k).map confQ)
  | 0, _ => by show a = a ++ []; rw [List.append_nil]
  | k + 1, hk => by
    show tC (qs.getD k qd).caps (qH (tQ qs a k) (qs.getD k qd)) (qs.getD k qd).caps.length ++ [10] = _
    rw [qH_eq (h _ (by simp [List.getD, show k < qs.length by omega])), tQ_eq h a k (by omega), take_snoc' qd (by omega), List.map_append]
    show _ = a ++ ends 10 ((qs.take k).map confQ ++ [confQ (qs.getD k qd)])
    rw [ends_snoc]
    simp
theorem textI_eq {la : List B} {qs : List Qu} (h : GoodC la qs) : textI la qs = textC la qs := by
  have hl : 1 ≤ la.length := by rw [h.hd]; simp
  obtain ⟨k, hk⟩ : ∃ k, la.length = k + 1 := ⟨la.length - 1, by omega⟩
  unfold textI tA
  rw [tQ_eq h.q _ _ (Nat.le_refl _), List.take_length, hk, tL_eq la k (by omega), ← hk, List.take_length]
  show ((wLabels ++ heads 32 (la.drop 1)) ++ [10]) ++ ends 10 (qs.map confQ) = (wLabels ++ heads 32 (la.drop 1)) ++ 10 :: ends 10 (qs.map confQ)
  simp
/-! ### What Parse reads is good -/
theorem split_nc {c : UInt8} : ∀ {l p : B}, p ∈ splitM c l → c ∉ p
  | [], p, h => by
    have : p = [] := by simpa [splitM] using h
    subst this; simp
  | x :: l, p, h => by
    unfold splitM at h
    cases hx : x == c with
    | true =>
      rw [hx, cond_true] at h
      rcases List.mem_cons.1 h with rfl | h
      · simp
      · exact split_nc h
    | false =>
      rw [hx, cond_false] at h
      have hne := beq_eq_false_iff_ne.1 hx
      cases hs : splitM c l with
      | nil => exact (splitM_ne c l hs).elim
      | cons q qs =>
        rw [hs] at h
        rcases List.mem_cons.1 h with rfl | h
        · intro hm
          rcases List.mem_cons.1 hm with hm | hm
          · exact hne hm.symm
          · exact split_nc (l := l) (p := q) (by rw [hs]; exact List.mem_cons_self) hm
        · exact split_nc (l := l) (by rw [hs]; exact List.mem_cons_of_mem _ h)
theorem split_sub {c : UInt8} : ∀ {l p : B}, p ∈ splitM c l → ∀ x ∈ p, x ∈ l
  | [], p, h => by
    have : p = [] := by simpa [splitM] using h
    subst this; simp
  | y :: l, p, h => by
    unfold splitM at h
    cases hx : y == c with
    | true =>
      rw [hx, cond_true] at h
      rcases List.mem_cons.1 h with rfl | h
      · simp
      · exact fun x hm => List.mem_cons_of_mem _ (split_sub h x hm)
    | false =>
      rw [hx, cond_false] at h
      cases hs : splitM c l with
      | nil => exact (splitM_ne c l hs).elim
      | cons q qs =>
        rw [hs] at h
        rcases List.mem_cons.1 h with rfl | h
        · intro x hm
          rcases List.mem_cons.1 hm with rfl | hm
          · exact List.mem_cons_self
          · exact List.mem_cons_of_mem _ (split_sub (l := l) (p := q) (by rw [hs]; exact List.mem_cons_self) x hm)
        · exact fun x hm => List.mem_cons_of_mem _ (split_sub (l := l) (by rw [hs]; exact List.mem_cons_of_mem _ h) x hm)
structure WdL (M : Nat) (w : B) : Prop where
  wd : Wd w
  le : w.length ≤ M
theorem words_good {s l x : B} (hl : l ∈ splitM 10 s) (hx : x ∈ wordsM l) : WdL s.length x := by
  obtain ⟨h1, h2⟩ := List.mem_filter.1 hx
  have h2 : x ≠ [] := by simpa using h2
  have h3 := words_mem hx
  have h4 := split_mem 10 s l hl
  exact ⟨⟨h2, split_nc h1, fun hm => split_nc hl (split_sub h1 10 hm)⟩, by omega⟩
theorem numM_ok {s : B} (h : (numM s).2 = true) : OkN (numM s).1 := by
  unfold numM at h ⊢
  cases hc : okNum s && !zeroLed s with
  | false => rw [hc] at h; cases h
  | true =>
    rw [cond_true]
    rw [Bool.and_eq_true] at hc
    have hn := hc.1
    simp only [okNum, Bool.and_eq_true] at hn
    exact val_bd hn.2 (Nat.le_of_ble_eq_true hn.1.2)
structure GQ (M n : Nat) (q : Qu) : Prop where
  g : GoodQ n q
  p : q.path.length ≤ M
structure GR (M : Nat) (r : Rd) : Prop where
  l : r.seen = true → r.labels = [] :: r.labels.drop 1
  ls : ∀ x ∈ r.labels.drop 1, WdL M x
  l3 : r.labels.length ≤ 3
  q : ∀ q ∈ r.qs, GQ M r.labels.length q
  q16 : r.qs.length ≤ 16
  s : r.seen = false → r.qs = []
theorem newQ_good {M : Nat} {r : Rd} {w : List B} (hw : ∀ x ∈ w, WdL M x) (hl : w.length = 3 + r.labels.length) (ho : oksM w (w.length - 3) = true) : GQ M r.labels.length (newQ w) := by
  unfold oksM at ho
  rw [Bool.and_eq_true] at ho
  have hp := hw _ (getD_mem (w := w) (i := 1) (by omega))
  have ht : (w.drop 3).take (w.length - 3) = w.drop 3 := List.take_of_length_le (by simp)
  rw [ht] at ho
  refine ⟨⟨hp.wd, numM_ok ho.1, ?_, fun c hc => ?_⟩, hp.le⟩
  · show (capsM w (w.length - 3)).length = _
    unfold capsM
    rw [ht]
    simp; omega
  · have hc : c ∈ capsM w (w.length - 3) := hc
    unfold capsM at hc
    rw [ht] at hc
    obtain ⟨x, hx, rfl⟩ := List.mem_map.1 hc
    have h2 : (shareM x).2 = true := List.all_eq_true.1 ho.2 x hx
    unfold shareM at h2 ⊢
    simp only [Bool.and_eq_true] at h2
    exact ⟨numM_ok h2.1.2, numM_ok h2.2⟩
theorem line_good {M : Nat} {r r' : Rd} (h : GR M r) {w : List B} (hw : ∀ x ∈ w, WdL M x) (he : lineM r w = (r', 0)) : GR M r' := by
  unfold lineM at he
  cases c0 : decide (w.length = 0) with
  | true => rw [c0, cond_true] at he; cases he; exact h
  | false =>
    rw [c0, cond_false] at he
    have c0 := of_decide_eq_false c0
    cases c1 : (!r.seen && w.getD 0 [] == wLabels) with
    | true =>
      rw [c1, cond_true] at he
      cases c3 : decide (3 < w.length) with
      | true => rw [c3, cond_true] at he; cases he
      | false =>
        rw [c3, cond_false] at he
        have c3 := of_decide_eq_false c3
        rw [Bool.and_eq_true] at c1
        have hs : r.seen = false := by simpa using c1.1
        have hq := h.s hs
        cases he
        refine ⟨fun _ => rfl, fun x hx => hw x (List.mem_of_mem_drop (show x ∈ w.drop 1 from hx)), ?_, fun q hq' => ?_, h.q16, fun hf => by cases hf⟩
        · show (([] : B) :: w.drop 1).length ≤ 3
          simp only [List.length_cons, List.length_drop]; omega
        · have : q ∈ r.qs := hq'
          rw [hq] at this; cases this
    | false =>
      rw [c1, cond_false] at he
      cases c2 : (!r.seen || w.getD 0 [] != wQueue) with
      | true => rw [c2, cond_true] at he; cases he
      | false =>
        rw [c2, cond_false] at he
        rw [Bool.or_eq_false_iff] at c2
        have hs : r.seen = true := by simpa using c2.1
        cases c4 : decide ((r.qs.length : Int) ≥ 16) with
        | true => rw [c4, cond_true] at he; cases he
        | false =>
          rw [c4, cond_false] at he
          have c4 := of_decide_eq_false c4
          cases c5 : (decide (w.length = 3 + r.labels.length) && oksM w (w.length - 3)) with
          | false => rw [c5, cond_false] at he; cases he
          | true =>
            rw [c5, cond_true] at he
            rw [Bool.and_eq_true] at c5
            have hg := newQ_good (r := r) hw (of_decide_eq_true c5.1) c5.2
            cases he
            refine ⟨h.l, h.ls, h.l3, fun q hq => ?_, ?_, fun hf => ?_⟩
            · rcases List.mem_append.1 (show q ∈ r.qs ++ [newQ w] from hq) with hq | hq
              · exact h.q q hq
              · rw [List.mem_singleton.1 hq]; exact hg
            · show (r.qs ++ [newQ w]).length ≤ 16
              rw [List.length_append]; simp only [List.length_cons, List.length_nil]; omega
            · have : r.seen = false := hf
              rw [hs] at this; cases this
theorem run_good {M : Nat} : ∀ {ls : List B} {r r' : Rd}, GR M r → (∀ l ∈ ls, ∀ x ∈ wordsM l, WdL M x) → runM r ls = (r', 0) → GR M r'
  | [], r, r', h, _, he => by cases he; exact h
  | l :: ls, r, r', h, hl, he => by
    have he : (bif (lineM r (wordsM l)).2 == 0 then runM (lineM r (wordsM l)).1 ls else lineM r (wordsM l)) = (r', 0) := he
    cases hc : (lineM r (wordsM l)).2 == 0 with
    | false =>
      rw [hc, cond_false] at he
      rw [he] at hc
      cases hc
    | true =>
      rw [hc, cond_true] at he
      have h0 : (lineM r (wordsM l)).2 = 0 := beq_iff_eq.1 hc
      have h1 := line_good h (hl l List.mem_cons_self) (show lineM r (wordsM l) = ((lineM r (wordsM l)).1, 0) by rw [← h0])
      exact run_good h1 (fun x hx => hl x (List.mem_cons_of_mem _ hx)) he
theorem strict_of {ys : List Qu} (hs : ys.Pairwise (fun a b => ltQ b a = false)) (hd : dupTo ys ys.length = false) : Strict ys := by
  have hn : (ys.map (·.path)).Nodup := by
    by_cases h : (ys.map (·.path)).Nodup
    · exact h
    · rw [dup_sorted hs h] at hd; cases hd
  unfold List.Nodup at hn
  rw [List.pairwise_map] at hn
  refine (hs.and hn).imp fun {a b} h => ?_
  cases hl : ltQ a b with
  | true => rfl
  | false => exact (h.2 (bl_tri _ _ hl h.1)).elim
structure GoodP (p : PM) : Prop where
  g : GoodC p.labels p.qs
  ls : ∀ l ∈ p.labels, l.length ≤ 2000
  ps : ∀ q ∈ p.qs, q.path.length ≤ 2000
theorem parse_good {s : B} (he : (parseM s).err = 0) : GoodP (parseM s) := by
  cases h0 : decide ((s.length : Int) > 2000) with
  | true => rw [parse_long h0] at he; cases he
  | false =>
    have h2000 : s.length ≤ 2000 := by
      have := of_decide_eq_false h0
      omega
    cases h1 : (runM rd0 (textM s)).2 == 0 with
    | false =>
      have hne : ((runM rd0 (textM s)).2 != 0) = true := by unfold bne; rw [h1]; rfl
      rw [parse_err (r := (runM rd0 (textM s)).1) (e := (runM rd0 (textM s)).2) h0 rfl hne] at he
      have he : (runM rd0 (textM s)).2 = 0 := he
      rw [he] at h1; cases h1
    | true =>
      have hr : runM rd0 (textM s) = ((runM rd0 (textM s)).1, 0) := by rw [← beq_iff_eq.1 h1]
      generalize (runM rd0 (textM s)).1 = r at hr
      cases hs : r.seen with
      | false => rw [parse_unseen h0 hr hs] at he; cases he
      | true =>
        cases hd : dupTo (ordM r) r.qs.length with
        | true => rw [parse_dup h0 hr hs hd] at he; cases he
        | false =>
          rw [parse_ok h0 hr hs hd]
          have hg : GR s.length r := run_good (r := rd0) ⟨fun h => (by cases h), fun x hx => (by cases hx), by decide, fun q hq => (by cases hq), by decide, fun _ => rfl⟩ (fun l hl x hx => words_good hl hx) hr
          have hp : (ordM r).Perm r.qs := by
            unfold ordM
            rw [order_all]; exact (List.reverse_perm _).trans (sortR_perm _)
          have hst : Strict (ordM r) := by
            refine strict_of ?_ ?_
            · unfold ordM
              rw [order_all, List.pairwise_reverse]; exact sortR_desc _
            · rw [hp.length_eq]; exact hd
          have hl := hg.l hs
          refine ⟨⟨hl, fun l hl => (hg.ls l hl).wd, hg.l3, fun q hq => (hg.q q (hp.mem_iff.1 hq)).g, by rw [hp.length_eq]; exact hg.q16, hst⟩, fun l hm => ?_, fun q hq => by have := (hg.q q (hp.mem_iff.1 hq)).p; omega⟩
          have hm : l ∈ r.labels := hm
          rw [hl] at hm
          rcases List.mem_cons.1 hm with rfl | hm
          · exact Nat.zero_le _
          · have := (hg.ls l hm).le; omega
theorem okI_of {n : Int} (h : OkN n) : okI n = true := by
  unfold okI
  have h1 := h.1
  have h2 := h.2
  rw [dT (by omega), dT (by omega)]; rfl
theorem good_ok {la : List B} {qs : List Qu} (h : GoodC la qs) (h1 : ∀ l ∈ la, l.length ≤ 2000) (h2 : ∀ q ∈ qs, q.path.length ≤ 2000) : AT.ok ⟨la, qs⟩ = true := by
  have l3 := h.l3
  have q16 := h.q16
  simp only [AT.ok, Bool.and_eq_true]
  refine ⟨⟨⟨Nat.ble_eq_true_of_le (by omega), List.all_eq_true.2 fun l hl => Nat.ble_eq_true_of_le (h1 l hl)⟩, Nat.ble_eq_true_of_le (by omega)⟩, List.all_eq_true.2 fun q hq => ?_⟩
  have hg := h.q q hq
  simp only [okQ, Bool.and_eq_true]
  refine ⟨⟨⟨Nat.ble_eq_true_of_le (h2 q hq), Nat.ble_eq_true_of_le (by rw [hg.len]; omega)⟩, okI_of hg.user⟩, List.all_eq_true.2 fun c hc => ?_⟩
  have := hg.caps c hc
  unfold okC
  rw [okI_of this.1, okI_of this.2]; rfl
/-! ### What Make makes is good -/
theorem path_no (ns : List Int) : ∀ k, (32 : UInt8) ∉ pathM ns k ∧ (10 : UInt8) ∉ pathM ns k ∧ pathM ns k ≠ []
  | 0 => by
    show (32 : UInt8) ∉ ([114, 111, 111, 116] : B) ∧ (10 : UInt8) ∉ ([114, 111, 111, 116] : B) ∧ ([114, 111, 111, 116] : B) ≠ []
    exact ⟨by decide, by decide, by decide⟩
  | k + 1 => by
    obtain ⟨h1, h2, _⟩ := path_no ns k
    have hb := wi_big (ns.getD k 0) (n := 4) (by decide) (by decide)
    have hn : ∀ j, j < 4 → (32 : UInt8) ∉ nameL.getD j [] ∧ (10 : UInt8) ∉ nameL.getD j [] := by
      intro j hj
      have : j = 0 ∨ j = 1 ∨ j = 2 ∨ j = 3 := by omega
      rcases this with h | h | h | h <;> subst h <;> exact ⟨by decide, by decide⟩
    have hn := hn (wi (ns.getD k 0) 4).toNat (by omega)
    have e : pathM ns (k + 1) = pathM ns k ++ [46] ++ nameL.getD (wi (ns.getD k 0) 4).toNat [] := rfl
    rw [e]
    refine ⟨fun hm => ?_, fun hm => ?_, by simp⟩
    · simp only [List.mem_append, List.mem_singleton] at hm
      rcases hm with (hm | hm) | hm
      · exact h1 hm
      · cases hm
      · exact hn.1 hm
    · simp only [List.mem_append, List.mem_singleton] at hm
      rcases hm with (hm | hm) | hm
      · exact h2 hm
      · cases hm
      · exact hn.2 hm
theorem capAt_ok (cs : List Cp) (k : Nat) : OkN (capAt cs k).least ∧ OkN (capAt cs k).most := by
  unfold capAt
  cases decide (k < cs.length) with
  | false => exact ⟨⟨by show (0 : Int) ≤ 10000; decide, by show (10000 : Int) < 10000000; decide⟩, ⟨by show (0 : Int) ≤ 10000; decide, by show (10000 : Int) < 10000000; decide⟩⟩
  | true =>
    have h1 := wi_big (cs.getD k cd).least (n := 10001) (by decide) (by decide)
    have h2 := wi_big (cs.getD k cd).most (n := 10001) (by decide) (by decide)
    rw [cond_true]
    exact ⟨⟨h1.1, by have := h1.2; show wi _ 10001 < _; omega⟩, ⟨h2.1, by have := h2.2; show wi _ 10001 < _; omega⟩⟩
theorem mkCaps_ok (cs : List Cp) : ∀ k, ∀ c ∈ mkCaps cs k, OkN c.least ∧ OkN c.most
  | 0, c, h => by cases h
  | k + 1, c, h => by
    rcases List.mem_append.1 (show c ∈ mkCaps cs k ++ [capAt cs k] from h) with h | h
    · exact mkCaps_ok cs k c h
    · rw [List.mem_singleton.1 h]; exact capAt_ok cs k
theorem mkQ_good (n : Nat) (r : Rq) : GoodQ n (mkQ n r) := by
  obtain ⟨h1, h2, h3⟩ := path_no r.names (min r.names.length 4)
  have hu := wi_big r.user (n := 1000000) (by decide) (by decide)
  exact ⟨⟨h3, h1, h2⟩, ⟨hu.1, by have := hu.2; show wi _ 1000000 < _; omega⟩, mkCaps_len _ _, mkCaps_ok _ _⟩
theorem putM_strict {l : List Qu} {q : Qu} (h : Strict l) : Strict (putM l q) := by
  unfold putM
  cases hi : isF l q with
  | true => exact h
  | false => exact insF_strict h hi
theorem mkQs_good (n : Nat) (qs : List Rq) : ∀ k, Strict (mkQs n qs k) ∧ ∀ q ∈ mkQs n qs k, GoodQ n q
  | 0 => ⟨List.Pairwise.nil, fun q h => by cases h⟩
  | k + 1 => by
    obtain ⟨h1, h2⟩ := mkQs_good n qs k
    refine ⟨putM_strict h1, fun q hq => ?_⟩
    rcases putM_mem (show q ∈ putM (mkQs n qs k) (mkQ n (qs.getD k rqd)) from hq) with h | h
    · rw [h]; exact mkQ_good n _
    · exact h2 q h
theorem make_good (a : AR) : GoodC (labM a.l) (makeQ a) := by
  have hw := wi_big a.l (n := 3) (by decide) (by decide)
  obtain ⟨h1, h2⟩ := mkQs_good (labM a.l).length a.qs (min a.qs.length 16)
  have hl := mkQs_len (labM a.l).length a.qs (min a.qs.length 16)
  have hd : labM a.l = [] :: (labM a.l).drop 1 := by
    unfold labM
    rw [Nat.add_comm]; rfl
  refine ⟨hd, fun l hm => ?_, labM_len _, h2, by show (mkQs _ _ _).length ≤ 16; omega, h1⟩
  have hm : l ∈ lab3.drop 1 := by
    have h3 : labM a.l = [] :: (lab3.drop 1).take (wi a.l 3).toNat := by
      unfold labM
      rw [Nat.add_comm]; rfl
    rw [h3] at hm
    exact List.mem_of_mem_take (show l ∈ (lab3.drop 1).take (wi a.l 3).toNat from hm)
  have : l = [103, 112, 117] ∨ l = [115, 115, 100] := by simpa [lab3] using hm
  rcases this with h | h <;> subst h <;> exact ⟨by decide, by decide, by decide⟩
theorem make_ok (a : AR) : AT.ok ⟨labM a.l, makeQ a⟩ = true := by
  have hf := make_fine a
  have hF := AT.fine_is hf
  refine good_ok (make_good a) (fun l hl => ?_) (fun q hq => ?_)
  · obtain ⟨j, hj, rfl⟩ := List.mem_iff_getElem.1 hl
    have := hF.ls j
    have h : ((labM a.l).getD j []).length ≤ 100 := this
    rw [List.getD_eq_getElem?_getD, List.getElem?_eq_getElem hj] at h
    exact Nat.le_trans h (by decide)
  · obtain ⟨j, hj, rfl⟩ := List.mem_iff_getElem.1 hq
    have h := (fitQ_is (hF.qs j hj)).p
    have h : ((makeQ a).getD j qd).path.length ≤ 100 := h
    rw [List.getD_eq_getElem?_getD, List.getElem?_eq_getElem hj] at h
    exact Nat.le_trans h (by decide)
end Go.Proofs.YtaonjbojhikndaaDoor

namespace Go.Proofs.YtaonjbojhikndaaDoor
open Go Go.W
set_option maxRecDepth 100000
/-! ### conf.Text -/
theorem okI_is {n : Int} (h : okI n = true) : -9223372036854775808 ≤ n ∧ n ≤ 9223372036854775807 := by
  unfold okI at h
  rw [Bool.and_eq_true] at h
  exact ⟨of_decide_eq_true h.1, of_decide_eq_true h.2⟩
theorem numI_len {n : Int} (h : okI n = true) : (numI n).length ≤ 21 := by
  have := okI_is h
  exact Lib.itoa_length_le n this.1 this.2
structure OkQ (q : Qu) : Prop where
  p : q.path.length ≤ 2000
  c : q.caps.length ≤ 10
  u : okI q.user = true
  cs : ∀ j, j < q.caps.length → okI (q.caps.getD j cd).least = true ∧ okI (q.caps.getD j cd).most = true
theorem okQ_is {q : Qu} (h : okQ q = true) : OkQ q := by
  simp only [okQ, Bool.and_eq_true] at h
  refine ⟨Nat.le_of_ble_eq_true h.1.1.1, Nat.le_of_ble_eq_true h.1.1.2, h.1.2, fun j hj => ?_⟩
  have := List.all_eq_true.1 h.2 (q.caps.getD j cd) (by simp [List.getD, hj])
  simpa [okC] using this
structure AT.Ok (a : AT) : Prop where
  l : a.la.length ≤ 10
  ls : ∀ j, (a.la.getD j []).length ≤ 2000
  q : a.qs.length ≤ 20
  qs : ∀ j, j < a.qs.length → OkQ (a.qs.getD j qd)
theorem AT.ok_is {a : AT} (h : a.ok = true) : a.Ok := by
  simp only [AT.ok, Bool.and_eq_true] at h
  refine ⟨Nat.le_of_ble_eq_true h.1.1.1, fun j => ?_, Nat.le_of_ble_eq_true h.1.2, fun j hj => okQ_is (List.all_eq_true.1 h.2 _ (by simp [List.getD, hj]))⟩
  by_cases hj : j < a.la.length
  · exact Nat.le_of_ble_eq_true (List.all_eq_true.1 h.1.1.2 _ (getD_mem hj))
  · rw [List.getD_eq_getElem?_getD, List.getElem?_eq_none (by omega)]; exact Nat.zero_le _
theorem tL_len {a : AT} (h : a.Ok) : ∀ k, (tL a.la k).length ≤ 6 + 2001 * k
  | 0 => Nat.le_refl _
  | k + 1 => by
    have h1 := tL_len h k
    have h2 := h.ls k
    show (bif Nat.beq k 0 then wLabels else tL a.la k ++ ([32] ++ a.la.getD k [])).length ≤ _
    cases Nat.beq k 0 with
    | true => show 6 ≤ _; omega
    | false => rw [cond_false, List.length_append, List.length_append]; simp only [List.length_cons, List.length_nil]; omega
theorem cT_len {c : Cp} (h : okI c.least = true ∧ okI c.most = true) : (cT c).length ≤ 44 := by
  have h1 := numI_len h.1
  have h2 := numI_len h.2
  unfold cT
  rw [List.length_append, List.length_append, List.length_append]; simp only [List.length_cons, List.length_nil]; omega
theorem tC_len {q : Qu} (h : OkQ q) (a : B) : ∀ k, k ≤ q.caps.length → (tC q.caps a k).length ≤ a.length + 44 * k
  | 0, _ => Nat.le_refl _
  | k + 1, hk => by
    have h1 := tC_len h a k (by omega)
    have h2 := cT_len (h.cs k (by omega))
    show (tC q.caps a k ++ cT (q.caps.getD k cd)).length ≤ _
    rw [List.length_append]; omega
theorem qH_len {q : Qu} (h : OkQ q) (a : B) : (qH a q).length ≤ a.length + 2028 := by
  have h1 := numI_len h.u
  have h2 := h.p
  unfold qH
  rw [List.length_append, List.length_append, List.length_append, List.length_append]; simp only [List.length_cons, List.length_nil]; omega
theorem tQ_len {a : AT} (h : a.Ok) (t : B) : ∀ k, k ≤ a.qs.length → (tQ a.qs t k).length ≤ t.length + 2469 * k
  | 0, _ => Nat.le_refl _
  | k + 1, hk => by
    have h1 := tQ_len h t k (by omega)
    have hq := h.qs k (by omega)
    have h2 := qH_len hq (tQ a.qs t k)
    have h3 := tC_len hq (qH (tQ a.qs t k) (a.qs.getD k qd)) _ (Nat.le_refl _)
    have h4 := hq.c
    show (tC _ _ _ ++ [10]).length ≤ _
    rw [List.length_append]; simp only [List.length_cons, List.length_nil]; omega
theorem tA_len {a : AT} (h : a.Ok) : (tA a.la).length ≤ 20017 := by
  have h1 := tL_len h a.la.length
  have h2 := h.l
  unfold tA
  rw [List.length_append]; simp only [List.length_cons, List.length_nil]; omega
theorem textI_len {a : AT} (h : a.Ok) : (textI a.la a.qs).length ≤ 100000 := by
  have h1 := tQ_len h (tA a.la) a.qs.length (Nat.le_refl _)
  have h2 := tA_len h
  have h3 := h.q
  show (tQ _ _ _).length ≤ _
  omega
theorem ok20 (a : AT) (hp : S20.pre a = true) : OwesN e31 20 S20 (fun _ => []) (L20 a) noJ (0 : Nat) a := by
  refine OwesN.mk ?_
  rw [v20]
  have hf := AT.ok_is (a := a) hp
  have f1 := hf.l
  have f3 := hf.q
  have fA := tA_len hf
  refine ⟨⟨⟨0, Nat.zero_le _⟩, ⟨⟨rfl, rfl⟩, rfl, rfl, rfl, rfl, trivial⟩, ⟨⟨rfl, rfl, trivial⟩, trivial⟩, trivial⟩, fun x => ?_⟩
  have x1 := x.2
  have x2 := tL_len hf x.1
  have x3 := hf.ls x.1
  have ex : ((x.1 : Int)).toNat = x.1 := by simp
  have wx : IntKind.i64.wrap ((x.1 : Int) + 1) = ((x.1 + 1 : Nat) : Int) := by rw [wrap_id] <;> omega
  rw [ex, wx]
  refine br (fun hlt => brT ?_ (br (fun h0 => ?_) (fun h0 => ?_))) (fun hge => ?_)
  · rw [Bool.and_true, Bool.and_true]; exact hlt
  · have hlt : x.1 < a.la.length := by simpa using hlt
    have h0 : ¬ x.1 = 0 := by
      have := of_decide_eq_true h0
      omega
    refine brT (Nat.ble_eq_true_of_le (by omega)) (brT (Nat.ble_eq_true_of_le ?_) ?_)
    · rw [List.length_append]; simp only [List.length_cons, List.length_nil]; omega
    · refine ⟨⟨x.1 + 1, hlt⟩, ?_, ⟨⟨rfl, rfl⟩, ?_, rfl, rfl, rfl, trivial⟩, ⟨⟨rfl, rfl, trivial⟩, trivial⟩, trivial⟩
      · show a.la.length - (x.1 + 1) < _; omega
      · show (bif Nat.beq x.1 0 then wLabels else tL a.la x.1 ++ ([32] ++ a.la.getD x.1 [])) = _
        have : Nat.beq x.1 0 = false := by
          cases h : Nat.beq x.1 0 with
          | false => rfl
          | true => exact (h0 (Nat.eq_of_beq_eq_true h)).elim
        rw [this]; rfl
  · have hlt : x.1 < a.la.length := by simpa using hlt
    have h0 : x.1 = 0 := by
      have := of_decide_eq_false h0
      omega
    refine ⟨⟨x.1 + 1, hlt⟩, ?_, ⟨⟨rfl, rfl⟩, ?_, rfl, rfl, rfl, trivial⟩, ⟨⟨rfl, rfl, trivial⟩, trivial⟩, trivial⟩
    · show a.la.length - (x.1 + 1) < _; omega
    · show tL a.la (x.1 + 1) = tL a.la x.1
      rw [h0]; rfl
  have hge : ¬ x.1 < a.la.length := by simpa using hge
  have hx : x.1 = a.la.length := by omega
  refine brT (Nat.ble_eq_true_of_le (by omega)) ⟨⟨⟨0, Nat.zero_le _⟩, ⟨⟨rfl, rfl⟩, by rw [hx]; rfl, rfl, rfl, rfl, trivial⟩, ⟨⟨rfl, rfl, trivial⟩, trivial⟩, trivial⟩, fun y => ?_⟩
  have y1 := y.2
  have y2 := tQ_len hf (tA a.la) y.1 y1
  have ey : ((y.1 : Int)).toNat = y.1 := by simp
  have wy : IntKind.i64.wrap ((y.1 : Int) + 1) = ((y.1 + 1 : Nat) : Int) := by rw [wrap_id] <;> omega
  rw [ey, wy]
  refine br (fun hlt => ?_) (fun hge => ?_)
  · have hlt : y.1 < a.qs.length := by simpa using hlt
    have hq := hf.qs y.1 hlt
    have q1 := hq.p
    have q2 := hq.c
    have q3 := qH_len hq (tQ a.qs (tA a.la) y.1)
    have q4 := numI_len hq.u
    refine brT (dTT (by omega)) (brT (Nat.ble_eq_true_of_le (show 6 + (a.qs.getD y.1 qd).path.length ≤ _ by omega)) (brT (Nat.ble_eq_true_of_le ?_) (brT hq.u (brT (Nat.ble_eq_true_of_le ?_) (brT (Nat.ble_eq_true_of_le ?_) ?_)))))
    · show ([113, 117, 101, 117, 101, 32] ++ (a.qs.getD y.1 qd).path).length + 1 ≤ _
      rw [List.length_append]; simp only [List.length_cons, List.length_nil]; omega
    · show ([113, 117, 101, 117, 101, 32] ++ (a.qs.getD y.1 qd).path ++ [32]).length + (numI (a.qs.getD y.1 qd).user).length ≤ _
      rw [List.length_append, List.length_append]; simp only [List.length_cons, List.length_nil]; omega
    · show (tQ a.qs (tA a.la) y.1).length + ([113, 117, 101, 117, 101, 32] ++ (a.qs.getD y.1 qd).path ++ [32] ++ numI (a.qs.getD y.1 qd).user).length ≤ _
      rw [List.length_append, List.length_append, List.length_append]; simp only [List.length_cons, List.length_nil]; omega
    refine ⟨⟨⟨0, Nat.zero_le _⟩, ⟨⟨rfl, rfl⟩, rfl, rfl, rfl, rfl, rfl, rfl, rfl, trivial⟩, ⟨⟨rfl, rfl, trivial⟩, trivial⟩, trivial⟩, fun z => ?_⟩
    have z1 := z.2
    have z2 := tC_len hq (qH (tQ a.qs (tA a.la) y.1) (a.qs.getD y.1 qd)) z.1 z1
    have ez : ((z.1 : Int)).toNat = z.1 := by simp
    have wz : IntKind.i64.wrap ((z.1 : Int) + 1) = ((z.1 + 1 : Nat) : Int) := by rw [wrap_id] <;> omega
    rw [ez, wz]
    refine br (fun hl3 => ?_) (fun hg3 => ?_)
    · have hl3 : z.1 < (a.qs.getD y.1 qd).caps.length := by have := of_decide_eq_true hl3; exact Int.ofNat_lt.1 this
      have c1 := hq.cs z.1 hl3
      have d1 := numI_len c1.1
      have d2 := numI_len c1.2
      refine brT (dTT (Int.ofNat_lt.2 hl3)) (brT c1.1 (brT (Nat.ble_eq_true_of_le (show 1 + (numI ((a.qs.getD y.1 qd).caps.getD z.1 cd).least).length ≤ _ by omega)) (brT (Nat.ble_eq_true_of_le ?_) (brT c1.2 (brT (Nat.ble_eq_true_of_le ?_) (brT (Nat.ble_eq_true_of_le ?_) ?_))))))
      · show ([32] ++ numI ((a.qs.getD y.1 qd).caps.getD z.1 cd).least).length + 1 ≤ _
        rw [List.length_append]; simp only [List.length_cons, List.length_nil]; omega
      · show ([32] ++ numI ((a.qs.getD y.1 qd).caps.getD z.1 cd).least ++ [47]).length + (numI ((a.qs.getD y.1 qd).caps.getD z.1 cd).most).length ≤ _
        rw [List.length_append, List.length_append]; simp only [List.length_cons, List.length_nil]; omega
      · have := cT_len c1
        show (tC _ _ z.1).length + (cT ((a.qs.getD y.1 qd).caps.getD z.1 cd)).length ≤ _
        omega
      · refine ⟨⟨z.1 + 1, hl3⟩, ?_, ⟨⟨rfl, rfl⟩, rfl, rfl, rfl, rfl, rfl, rfl, rfl, trivial⟩, ⟨⟨rfl, rfl, trivial⟩, trivial⟩, trivial⟩
        show (a.qs.getD y.1 qd).caps.length - (z.1 + 1) < _; omega
    · have hg3 : ¬ z.1 < (a.qs.getD y.1 qd).caps.length := by
        have := of_decide_eq_false hg3
        exact fun h => this (Int.ofNat_lt.2 h)
      have hz : z.1 = (a.qs.getD y.1 qd).caps.length := by omega
      refine brT (Nat.ble_eq_true_of_le (by omega)) ⟨⟨y.1 + 1, hlt⟩, ?_, ⟨⟨rfl, rfl⟩, ?_, rfl, rfl, rfl, trivial⟩, ⟨⟨rfl, rfl, trivial⟩, trivial⟩, trivial⟩
      · show a.qs.length - (y.1 + 1) < _; omega
      · rw [hz]; rfl
  · have hge : ¬ y.1 < a.qs.length := by simpa using hge
    refine ⟨?_, trivial⟩
    exact congrArg (tQ a.qs (tA a.la)) (show a.qs.length = y.1 by omega)
theorem k20 : SpecOk Tryd.prog 20 S20 := spec_loopN e31_sound (by kernel_rfl) (fun _ _ => []) L20 (fun _ => noJ) (fun _ => 0) ok20
theorem a20 : RowOK 20 (S20.con M20) := Spec.con_ok k20 M20 (fun _ => Nat.le_of_ble_eq_true rfl)
theorem K32_ok : ConOk Tryd.prog K32 := con_cons a11 (con_cons a12 (con_cons a14 (con_cons a15 (con_cons a16 (con_cons a17 (con_cons a19 (con_cons a20 con_nil)))))))
theorem e32_sound : HdSound Tryd.prog e32 := hdT_sound mixed hno K32_ok _ _ _
/-! ### ConfAgain -/
structure YesAF (a : A3) : Prop where
  go : YesA a
theorem again_yes (a : A3) : YesAF a := by
  refine YesAF.mk ?_
  rw [v8a]
  have hok := make_ok a.r
  have hT : (textI (labM a.r.l) (makeQ a.r)).length ≤ 100000 := textI_len (AT.ok_is hok)
  have hm := mix_len a.ns (min a.ns.length 60)
  have hm : (mixN a.ns).length ≤ 720 := by
    show (mixM _ _).length ≤ _
    omega
  generalize hw : textI (labM a.r.l) (makeQ a.r) = t at hT ⊢
  have w1 : IntKind.i64.wrap ((t.length : Int) + 1) = ((t.length + 1 : Nat) : Int) := by rw [wrap_id] <;> omega
  rw [w1]
  have hb := wi_big a.cut (n := ((t.length + 1 : Nat) : Int)) (by omega) (by omega)
  refine br (fun _ => rfl) (fun _ => brT hok ⟨brT (dT (by show (0 : Int) < ((t.length + 1 : Nat) : Int); omega)) ?_, fun x => ?_⟩)
  · refine ⟨⟨⟨t, (wi a.cut ((t.length + 1 : Nat) : Int)).toNat⟩, by show (wi _ _).toNat ≤ t.length; omega, hT⟩, ⟨rfl, rfl, ?_, trivial⟩, trivial⟩
    show (((wi a.cut ((t.length + 1 : Nat) : Int)).toNat : Nat) : Int) = _
    omega
  have x1 := x.2.1
  have x2 := x.2.2
  have ex : ((x.1.k : Int)).toNat = x.1.k := by simp
  have el : ((x.1.w.length : Int)).toNat = x.1.w.length := by simp
  rw [ex, el, List.take_length, List.drop_zero]
  have l1 : (List.take x.1.k x.1.w).length = x.1.k := by rw [List.length_take]; omega
  have l2 : (List.drop x.1.k x.1.w).length = x.1.w.length - x.1.k := List.length_drop
  refine brT (Nat.ble_eq_true_of_le (by omega)) (brT (dT (by omega)) (brT (Nat.ble_eq_true_of_le (by omega)) (brT ?_ (brT (Nat.ble_eq_true_of_le (by rw [List.length_append]; omega)) (brT (dT (by omega)) ⟨⟨⟨⟨0, _⟩, Nat.zero_le _, ?_, ?_⟩, ⟨⟨rfl, rfl, Nat.zero_le _⟩, rfl, trivial⟩, rfl, trivial⟩, fun y => ?_⟩)))))
  · rw [Bool.and_eq_true]; exact ⟨dT (by omega), dT (Int.le_refl _)⟩
  · rfl
  · intro u hu
    have hu : u ∈ [[108, 97, 98, 101, 108, 115, 10] ++ mixN a.ns, List.take x.1.k x.1.w ++ mixN a.ns ++ List.drop x.1.k x.1.w, List.take x.1.k x.1.w] := hu
    simp only [List.mem_cons, List.not_mem_nil, or_false] at hu
    refine Nat.ble_eq_true_of_le ?_
    rcases hu with h | h | h <;> subst h
    · rw [List.length_append]; simp only [List.length_cons, List.length_nil]; omega
    · rw [List.length_append, List.length_append]; omega
    · omega
  · have y1 := y.2.i
    have y2 := y.2.n
    have y3 := y.2.sm
    have ey : ((y.1.i : Int)).toNat = y.1.i := by simp
    have wy : IntKind.i64.wrap ((y.1.i : Int) + 1) = ((y.1.i + 1 : Nat) : Int) := by rw [wrap_id] <;> omega
    rw [ey, wy, Nat.zero_add]
    refine br (fun hlt => ?_) (fun _ => rfl)
    have hlt : y.1.i < 3 := by have := of_decide_eq_true hlt; omega
    have hsm := y3 _ (getD_mem (w := y.1.xs) (i := y.1.i) (by omega))
    have hbl : Nat.blt y.1.i y.1.xs.length = true := Nat.ble_eq_true_of_le (show y.1.i + 1 ≤ y.1.xs.length by omega)
    have next : ∃ (x' : { x : R9 // P8 x }), 3 - x'.val.i < 3 - y.1.i ∧ (((0 : Nat) = 0 ∧ (3 : Nat) = 3 ∧ Nat.le 0 0) ∧ (x'.val.i : Int) = ((y.1.i + 1 : Nat) : Int) ∧ True) ∧ o9 x'.val.xs = o9 y.1.xs ∧ True :=
      ⟨⟨⟨y.1.i + 1, y.1.xs⟩, hlt, y2, y3⟩, by show 3 - (y.1.i + 1) < 3 - y.1.i; omega, ⟨⟨rfl, rfl, Nat.zero_le _⟩, rfl, trivial⟩, rfl, trivial⟩
    generalize y.1.xs.getD y.1.i [] = s at hsm
    refine brT (dT (by omega)) (brT hbl (brT hsm (br (fun _ => next) (fun h0 => ?_))))
    have h0 : (parseM s).err = 0 := by
      have : ¬ ((parseM s).err ≠ 0) := fun h => by rw [bne_iff_ne.2 h] at h0; cases h0
      exact Classical.not_not.1 this
    have hg := parse_good h0
    have hok := good_ok hg.g hg.ls hg.ps
    have hlen : (textI (parseM s).labels (parseM s).qs).length ≤ 100000 := textI_len (AT.ok_is hok)
    refine brT hok (brT (Nat.ble_eq_true_of_le (by show _ + 1 ≤ 1000000; omega)) ?_)
    by_cases h2 : (textC (parseM s).labels (parseM s).qs).length ≤ 2000
    · have hp := parse_text hg.g h2
      rw [textI_eq hg.g, hp]
      refine brF rfl (brT rfl (brT (small_same _ _ _) (brF ?_ next)))
      rw [same_refl]; rfl
    · have hp := parse_long (s := textC (parseM s).labels (parseM s).qs) (dT (by omega))
      rw [textI_eq hg.g, hp]
      exact brT rfl (brF rfl (brF rfl next))
end Go.Proofs.YtaonjbojhikndaaDoor
