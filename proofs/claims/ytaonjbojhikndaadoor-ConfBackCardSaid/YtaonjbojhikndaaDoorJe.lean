/- Make, Text; ConfParses answers yes. No conditions. -/
import Derived.Test.YtaonjbojhikndaaDoorJd
namespace Go.Proofs.YtaonjbojhikndaaDoor
open Go Go.W Go.Proofs
set_option maxRecDepth 100000
theorem v14 (a : AR) (lb : List B) : (OwesD e28 (14 : Nat) S14 A14 (L14 a lb) (J14 a lb) (0 : Nat) a) = ( branch (decide ((0 : Int) ≤ IntKind.i64.wrap ((1 : Int) + wi a.l (3 : Int))) && decide (IntKind.i64.wrap ((1 : Int) + wi a.l (3 : Int)) ≤ (↑(3 : Nat) : Int))) (branch (((0 : Nat) + (IntKind.i64.wrap ((1 : Int) + wi a.l (3 : Int)) - (0 : Int)).toNat).ble (3 : Nat) && true && true) ((∃ (x : { i : Nat // i ≤ a.qs.length ∧ i ≤ (16 : Nat) }), (((0 : Nat) = (0 : Nat) ∧ (0 : Nat) = (0 : Nat)) ∧ ((0 : Nat) = (0 : Nat) ∧ (0 : Nat) = (0 : Nat)) ∧ ((0 : Nat) = (0 : Nat) ∧ (0 : Nat) = (0 : Nat)) ∧ (↑x.val : Int) = (0 : Int) ∧ True) ∧ ((a.l = a.l ∧ d58 a.qs = d58 a.qs ∧ True) ∧ True) ∧ ((nilsD = D.nils ∧ nilsD = D.nils ∧ True) ∧ True) ∧ ((d9 lb = d9 (List.drop (0 : Nat) (List.take ((0 : Nat) + (IntKind.i64.wrap ((1 : Int) + wi a.l (3 : Int)) - (0 : Int)).toNat) [[], [OfNat.ofNat (103 : Nat), OfNat.ofNat (112 : Nat), OfNat.ofNat (117 : Nat)], [OfNat.ofNat (115 : Nat), OfNat.ofNat (115 : Nat), OfNat.ofNat (100 : Nat)]])) ∧ mkQs lb.length a.qs x.val = [] ∧ True) ∧ True) ∧ True) ∧ ∀ (x : { i : Nat // i ≤ a.qs.length ∧ i ≤ (16 : Nat) }), branch (decide ((↑x.val : Int) < (↑a.qs.length : Int))) (branch (decide ((↑x.val : Int) < (16 : Int))) (branch (decide ((↑x.val : Int) < (↑a.qs.length : Int)) && true && true) (((∃ (x_1 : { k : Nat // k ≤ (a.qs.getD x.val rqd).names.length ∧ k ≤ (4 : Nat) }), (((0 : Nat) = (0 : Nat) ∧ (0 : Nat) = (0 : Nat)) ∧ ((0 : Nat) = (0 : Nat) ∧ (0 : Nat) = (0 : Nat)) ∧ ((0 : Nat) = (0 : Nat) ∧ (0 : Nat) = (0 : Nat)) ∧ (↑x.val : Int) = (↑x.val : Int) ∧ ((0 : Nat) = (0 : Nat) ∧ (0 : Nat) = (0 : Nat)) ∧ (↑x_1.val : Int) = (0 : Int) ∧ True) ∧ ((a.l = a.l ∧ d58 a.qs = d58 a.qs ∧ True) ∧ True) ∧ ((nilsD = D.nils ∧ nilsD = D.nils ∧ True) ∧ True) ∧ ((d9 lb = d9 lb ∧ d46 (mkQs lb.length a.qs x.val) = d46 (mkQs lb.length a.qs x.val) ∧ True) ∧ True) ∧ ((pathM (a.qs.getD x.val rqd).names x_1.val = [OfNat.ofNat (114 : Nat), OfNat.ofNat (111 : Nat), OfNat.ofNat (111 : Nat), OfNat.ofNat (116 : Nat)] ∧ nilsD = D.nils ∧ wi (a.qs.getD x.val rqd).user (1000000 : Int) = wi (a.qs.getD (↑x.val : Int).toNat (Rq.mk [] [] (0 : Int))).user (1000000 : Int) ∧ True) ∧ True) ∧ True) ∧ ∀ (x_1 : { k : Nat // k ≤ (a.qs.getD x.val rqd).names.length ∧ k ≤ (4 : Nat) }), branch (decide ((↑x.val : Int) < (↑a.qs.length : Int)) && true && true) (branch (decide ((↑x_1.val : Int) < (↑(a.qs.getD (↑x.val : Int).toNat (Rq.mk [] [] (0 : Int))).names.length : Int))) (branch (decide ((↑x_1.val : Int) < (4 : Int))) (branch ((List.length (pathM (a.qs.getD x.val rqd).names x_1.val) + (1 : Nat)).ble (9223372036854775807 : Nat)) (branch (decide ((↑x.val : Int) < (↑a.qs.length : Int)) && true && true) (branch (decide ((↑x_1.val : Int) < (↑(a.qs.getD (↑x.val : Int).toNat (Rq.mk [] [] (0 : Int))).names.length : Int)) && true && true) (branch (decide ((0 : Int) ≤ wi ((a.qs.getD (↑x.val : Int).toNat (Rq.mk [] [] (0 : Int))).names.getD (↑x_1.val : Int).toNat (0 : Int)) (4 : Int)) && decide (wi
 ((a.qs.getD (↑x.val : Int).toNat (Rq.mk [] [] (0 : Int))).names.getD (↑x_1.val : Int).toNat (0 : Int)) (4 : Int) < (4 : Int))) (branch (((0 : Nat) + (wi ((a.qs.getD (↑x.val : Int).toNat (Rq.mk [] [] (0 : Int))).names.getD (↑x_1.val : Int).toNat (0 : Int)) (4 : Int)).toNat).blt (4 : Nat)) (branch (((pathM (a.qs.getD x.val rqd).names x_1.val ++ [OfNat.ofNat (46 : Nat)]).length + List.length ([([OfNat.ofNat (97 : Nat)] : List UInt8), [OfNat.ofNat (98 : Nat)], [OfNat.ofNat (99 : Nat), OfNat.ofNat (45 : Nat), OfNat.ofNat (49 : Nat)], [OfNat.ofNat (57 : Nat)]].getD ((0 : Nat) + (wi ((a.qs.getD (↑x.val : Int).toNat (Rq.mk [] [] (0 : Int))).names.getD (↑x_1.val : Int).toNat (0 : Int)) (4 : Int)).toNat) [])).ble (9223372036854775807 : Nat)) (∃ (x' : { k : Nat // k ≤ (a.qs.getD x.val rqd).names.length ∧ k ≤ (4 : Nat) }), (a.qs.getD x.val rqd).names.length - x'.val < (a.qs.getD x.val rqd).names.length - x_1.val ∧ (((0 : Nat) = (0 : Nat) ∧ (0 : Nat) = (0 : Nat)) ∧ ((0 : Nat) = (0 : Nat) ∧ (0 : Nat) = (0 : Nat)) ∧ ((0 : Nat) = (0 : Nat) ∧ (0 : Nat) = (0 : Nat)) ∧ (↑x.val : Int) = (↑x.val : Int) ∧ ((0 : Nat) = (0 : Nat) ∧ (0 : Nat) = (0 : Nat)) ∧ (↑x'.val : Int) = IntKind.i64.wrap ((↑x_1.val : Int) + (1 : Int)) ∧ True) ∧ ((a.l = a.l ∧ d58 a.qs = d58 a.qs ∧ True) ∧ True) ∧ ((nilsD = D.nils ∧ nilsD = D.nils ∧ True) ∧ True) ∧ ((d9 lb = d9 lb ∧ d46 (mkQs lb.length a.qs x.val) = d46 (mkQs lb.length a.qs x.val) ∧ True) ∧ True) ∧ ((pathM (a.qs.getD x.val rqd).names x'.val = pathM (a.qs.getD x.val rqd).names x_1.val ++ [OfNat.ofNat (46 : Nat)] ++ [([OfNat.ofNat (97 : Nat)] : List UInt8), [OfNat.ofNat (98 : Nat)], [OfNat.ofNat (99 : Nat), OfNat.ofNat (45 : Nat), OfNat.ofNat (49 : Nat)], [OfNat.ofNat (57 : Nat)]].getD ((0 : Nat) + (wi ((a.qs.getD (↑x.val : Int).toNat (Rq.mk [] [] (0 : Int))).names.getD (↑x_1.val : Int).toNat (0 : Int)) (4 : Int)).toNat) [] ∧ nilsD = D.nils ∧ wi (a.qs.getD x.val rqd).user (1000000 : Int) = wi (a.qs.getD x.val rqd).user (1000000 : Int) ∧ True) ∧ True) ∧ True) False) False) False) False) False) False) (∃ (x_2 : { _u : Nat // x.val < a.qs.length ∧ x.val < (16 : Nat) }), (((0 : Nat) = (0 : Nat) ∧ (0 : Nat) = (0 : Nat)) ∧ ((0 : Nat) = (0 : Nat) ∧ (0 : Nat) = (0 : Nat)) ∧ ((0 : Nat) = (0 : Nat) ∧ (0 : Nat) = (0 : Nat)) ∧ (↑x.val : Int) = (↑x.val : Int) ∧ ((0 : Nat) = (0 : Nat) ∧ (0 : Nat) = (0 : Nat)) ∧ True) ∧ ((a.l = a.l ∧ d58 a.qs = d58 a.qs ∧ True) ∧ True) ∧ ((nilsD = D.nils ∧ nilsD = D.nils ∧ True) ∧ True) ∧ ((d9 lb = d9 lb ∧ d46 (mkQs lb.length a.qs x.val) = d46 (mkQs lb.length a.qs x.val) ∧ True) ∧ True) ∧ ((pathM (a.qs.getD x.val rqd).names (min (a.qs.getD x.val rqd).names.length (4 : Nat)) = pathM (a.qs.getD x.val rqd).names x_1.val ∧ nilsD = D.nils ∧ wi (a.qs.getD x.val rqd).user (1000000 : Int) = wi (a.qs.getD x.val rqd).user (1000000 : Int) ∧ True) ∧ True) ∧ True)) (∃ (x_2 : { _u : Nat // x.val < a.qs.length ∧ x.val < (16 : Nat) }), (((0 : Nat) = (0 : Nat) ∧ (0 : Nat) = (0 : Nat)) ∧ ((0 : Nat) = (0 : Nat) ∧ (0 : Nat) = (0 : Nat)) ∧
 ((0 : Nat) = (0 : Nat) ∧ (0 : Nat) = (0 : Nat)) ∧ (↑x.val : Int) = (↑x.val : Int) ∧ ((0 : Nat) = (0 : Nat) ∧ (0 : Nat) = (0 : Nat)) ∧ True) ∧ ((a.l = a.l ∧ d58 a.qs = d58 a.qs ∧ True) ∧ True) ∧ ((nilsD = D.nils ∧ nilsD = D.nils ∧ True) ∧ True) ∧ ((d9 lb = d9 lb ∧ d46 (mkQs lb.length a.qs x.val) = d46 (mkQs lb.length a.qs x.val) ∧ True) ∧ True) ∧ ((pathM (a.qs.getD x.val rqd).names (min (a.qs.getD x.val rqd).names.length (4 : Nat)) = pathM (a.qs.getD x.val rqd).names x_1.val ∧ nilsD = D.nils ∧ wi (a.qs.getD x.val rqd).user (1000000 : Int) = wi (a.qs.getD x.val rqd).user (1000000 : Int) ∧ True) ∧ True) ∧ True)) False) ∧ ∀ (x_1 : { _u : Nat // x.val < a.qs.length ∧ x.val < (16 : Nat) }), (∃ (x_2 : { k : Nat // k ≤ lb.length }), (((0 : Nat) = (0 : Nat) ∧ (0 : Nat) = (0 : Nat)) ∧ ((0 : Nat) = (0 : Nat) ∧ (0 : Nat) = (0 : Nat)) ∧ ((0 : Nat) = (0 : Nat) ∧ (0 : Nat) = (0 : Nat)) ∧ (↑x.val : Int) = (↑x.val : Int) ∧ ((0 : Nat) = (0 : Nat) ∧ (0 : Nat) = (0 : Nat)) ∧ (↑x_2.val : Int) = (0 : Int) ∧ True) ∧ ((a.l = a.l ∧ d58 a.qs = d58 a.qs ∧ True) ∧ True) ∧ ((nilsD = D.nils ∧ nilsD = D.nils ∧ True) ∧ True) ∧ ((d9 lb = d9 lb ∧ d46 (mkQs lb.length a.qs x.val) = d46 (mkQs lb.length a.qs x.val) ∧ True) ∧ True) ∧ ((pathM (a.qs.getD x.val rqd).names (min (a.qs.getD x.val rqd).names.length (4 : Nat)) = pathM (a.qs.getD x.val rqd).names (min (a.qs.getD x.val rqd).names.length (4 : Nat)) ∧ ((0 : Nat) = (0 : Nat) ∧ (mkCaps (a.qs.getD x.val rqd).caps x_2.val).length = (0 : Nat) ∧ Nat.le (0 : Nat) (0 : Nat)) ∧ wi (a.qs.getD x.val rqd).user (1000000 : Int) = wi (a.qs.getD x.val rqd).user (1000000 : Int) ∧ True) ∧ True) ∧ o48 (mkCaps (a.qs.getD x.val rqd).caps x_2.val) = o48 [] ∧ True) ∧ ∀ (x_2 : { k : Nat // k ≤ lb.length }), branch (decide ((↑x_2.val : Int) < (↑lb.length : Int))) (branch (decide ((↑x.val : Int) < (↑a.qs.length : Int)) && true && true) (branch (decide ((↑x_2.val : Int) < (↑(a.qs.getD (↑x.val : Int).toNat (Rq.mk [] [] (0 : Int))).caps.length : Int))) (branch (decide ((↑x.val : Int) < (↑a.qs.length : Int)) && true && true) (branch (decide ((↑x_2.val : Int) < (↑(a.qs.getD (↑x.val : Int).toNat (Rq.mk [] [] (0 : Int))).caps.length : Int)) && true && true) (branch (decide ((↑x.val : Int) < (↑a.qs.length : Int)) && true && true) (branch (decide ((↑x_2.val : Int) < (↑(a.qs.getD (↑x.val : Int).toNat (Rq.mk [] [] (0 : Int))).caps.length : Int)) && true && true) (branch (((0 : Nat) + (mkCaps (a.qs.getD x.val rqd).caps x_2.val).length).beq (mkCaps (a.qs.getD x.val rqd).caps x_2.val).length) (branch ((((mkCaps (a.qs.getD x.val rqd).caps x_2.val).length + (1 : Nat)) * (16 : Nat)).ble (140737488355328 : Nat) && ((mkCaps (a.qs.getD x.val rqd).caps x_2.val).length + (1 : Nat)).ble (9223372036854775807 : Nat) && true && true && ((0 : Nat) + (mkCaps (a.qs.getD x.val rqd).caps x_2.val).length).ble (mkCaps (a.qs.getD x.val rqd).caps x_2.val).length) (∃ (x' : { k : Nat // k ≤ lb.length }), lb.length - x'.val < lb.length - x_2.val ∧ (((0 : Nat) = (0 : Nat) ∧ (0 : Nat) = (0 :
 Nat)) ∧ ((0 : Nat) = (0 : Nat) ∧ (0 : Nat) = (0 : Nat)) ∧ ((0 : Nat) = (0 : Nat) ∧ (0 : Nat) = (0 : Nat)) ∧ (↑x.val : Int) = (↑x.val : Int) ∧ ((0 : Nat) = (0 : Nat) ∧ (0 : Nat) = (0 : Nat)) ∧ (↑x'.val : Int) = IntKind.i64.wrap ((↑x_2.val : Int) + (1 : Int)) ∧ True) ∧ ((a.l = a.l ∧ d58 a.qs = d58 a.qs ∧ True) ∧ True) ∧ ((nilsD = D.nils ∧ nilsD = D.nils ∧ True) ∧ True) ∧ ((d9 lb = d9 lb ∧ d46 (mkQs lb.length a.qs x.val) = d46 (mkQs lb.length a.qs x.val) ∧ True) ∧ True) ∧ ((pathM (a.qs.getD x.val rqd).names (min (a.qs.getD x.val rqd).names.length (4 : Nat)) = pathM (a.qs.getD x.val rqd).names (min (a.qs.getD x.val rqd).names.length (4 : Nat)) ∧ ((0 : Nat) = (0 : Nat) ∧ (mkCaps (a.qs.getD x.val rqd).caps x'.val).length = (mkCaps (a.qs.getD x.val rqd).caps x_2.val).length + (1 : Nat) ∧ Nat.le (0 : Nat) ((mkCaps (a.qs.getD x.val rqd).caps x_2.val).length + (1 : Nat))) ∧ wi (a.qs.getD x.val rqd).user (1000000 : Int) = wi (a.qs.getD x.val rqd).user (1000000 : Int) ∧ True) ∧ True) ∧ o48 (mkCaps (a.qs.getD x.val rqd).caps x'.val) = o48 (List.take (mkCaps (a.qs.getD x.val rqd).caps x_2.val).length (List.drop (0 : Nat) (mkCaps (a.qs.getD x.val rqd).caps x_2.val)) ++ [Cp.mk (wi ((a.qs.getD (↑x.val : Int).toNat (Rq.mk [] [] (0 : Int))).caps.getD (↑x_2.val : Int).toNat (Cp.mk (0 : Int) (0 : Int))).least (10001 : Int)) (wi ((a.qs.getD (↑x.val : Int).toNat (Rq.mk [] [] (0 : Int))).caps.getD (↑x_2.val : Int).toNat (Cp.mk (0 : Int) (0 : Int))).most (10001 : Int))]) ∧ True) False) False) False) False) False) False) (branch (((0 : Nat) + (mkCaps (a.qs.getD x.val rqd).caps x_2.val).length).beq (mkCaps (a.qs.getD x.val rqd).caps x_2.val).length) (branch ((((mkCaps (a.qs.getD x.val rqd).caps x_2.val).length + (1 : Nat)) * (16 : Nat)).ble (140737488355328 : Nat) && ((mkCaps (a.qs.getD x.val rqd).caps x_2.val).length + (1 : Nat)).ble (9223372036854775807 : Nat) && true && true && ((0 : Nat) + (mkCaps (a.qs.getD x.val rqd).caps x_2.val).length).ble (mkCaps (a.qs.getD x.val rqd).caps x_2.val).length) (∃ (x' : { k : Nat // k ≤ lb.length }), lb.length - x'.val < lb.length - x_2.val ∧ (((0 : Nat) = (0 : Nat) ∧ (0 : Nat) = (0 : Nat)) ∧ ((0 : Nat) = (0 : Nat) ∧ (0 : Nat) = (0 : Nat)) ∧ ((0 : Nat) = (0 : Nat) ∧ (0 : Nat) = (0 : Nat)) ∧ (↑x.val : Int) = (↑x.val : Int) ∧ ((0 : Nat) = (0 : Nat) ∧ (0 : Nat) = (0 : Nat)) ∧ (↑x'.val : Int) = IntKind.i64.wrap ((↑x_2.val : Int) + (1 : Int)) ∧ True) ∧ ((a.l = a.l ∧ d58 a.qs = d58 a.qs ∧ True) ∧ True) ∧ ((nilsD = D.nils ∧ nilsD = D.nils ∧ True) ∧ True) ∧ ((d9 lb = d9 lb ∧ d46 (mkQs lb.length a.qs x.val) = d46 (mkQs lb.length a.qs x.val) ∧ True) ∧ True) ∧ ((pathM (a.qs.getD x.val rqd).names (min (a.qs.getD x.val rqd).names.length (4 : Nat)) = pathM (a.qs.getD x.val rqd).names (min (a.qs.getD x.val rqd).names.length (4 : Nat)) ∧ ((0 : Nat) = (0 : Nat) ∧ (mkCaps (a.qs.getD x.val rqd).caps x'.val).length = (mkCaps (a.qs.getD x.val rqd).caps x_2.val).length + (1 : Nat) ∧ Nat.le (0 : Nat) ((mkCaps (a.qs.getD x.val rqd).caps x_2.val).length + (1
 : Nat))) ∧ wi (a.qs.getD x.val rqd).user (1000000 : Int) = wi (a.qs.getD x.val rqd).user (1000000 : Int) ∧ True) ∧ True) ∧ o48 (mkCaps (a.qs.getD x.val rqd).caps x'.val) = o48 (List.take (mkCaps (a.qs.getD x.val rqd).caps x_2.val).length (List.drop (0 : Nat) (mkCaps (a.qs.getD x.val rqd).caps x_2.val)) ++ [Cp.mk (10000 : Int) (10000 : Int)]) ∧ True) False) False)) False) (branch (S23.pre (AP.mk (mkQs lb.length a.qs x.val) (Qu.mk (pathM (a.qs.getD x.val rqd).names (min (a.qs.getD x.val rqd).names.length (4 : Nat))) (mkCaps (a.qs.getD x.val rqd).caps x_2.val) (wi (a.qs.getD x.val rqd).user (1000000 : Int))) (mkCaps (a.qs.getD x.val rqd).caps x_2.val).length)) (∃ (x' : { i : Nat // i ≤ a.qs.length ∧ i ≤ (16 : Nat) }), a.qs.length - x'.val < a.qs.length - x.val ∧ (((0 : Nat) = (0 : Nat) ∧ (0 : Nat) = (0 : Nat)) ∧ ((0 : Nat) = (0 : Nat) ∧ (0 : Nat) = (0 : Nat)) ∧ ((0 : Nat) = (0 : Nat) ∧ (0 : Nat) = (0 : Nat)) ∧ (↑x'.val : Int) = IntKind.i64.wrap ((↑x.val : Int) + (1 : Int)) ∧ True) ∧ ((a.l = a.l ∧ d58 a.qs = d58 a.qs ∧ True) ∧ True) ∧ ((nilsD = D.nils ∧ nilsD = D.nils ∧ True) ∧ True) ∧ ((d9 lb = d9 lb ∧ d46 (mkQs lb.length a.qs x'.val) = d46 (putM (mkQs lb.length a.qs x.val) (Qu.mk (pathM (a.qs.getD x.val rqd).names (min (a.qs.getD x.val rqd).names.length (4 : Nat))) (mkCaps (a.qs.getD x.val rqd).caps x_2.val) (wi (a.qs.getD x.val rqd).user (1000000 : Int)))) ∧ True) ∧ True) ∧ True) False)) False) ((d9 (labM a.l) = d9 lb ∧ d46 (makeQ a) = d46 (mkQs lb.length a.qs x.val) ∧ True) ∧ True)) ((d9 (labM a.l) = d9 lb ∧ d46 (makeQ a) = d46 (mkQs lb.length a.qs x.val) ∧ True) ∧ True)) False) False) := by kernel_rfl
theorem v13 (a : AT) : (OwesDN e29 (13 : Nat) S13 (fun (_ : Nat) => []) (L13 a) noJ (0 : Nat) a) = ( (∃ (x : { k : Nat // k + (1 : Nat) ≤ a.la.length ∨ k = (0 : Nat) }), (((0 : Nat) = (0 : Nat) ∧ (0 : Nat) = (0 : Nat)) ∧ txL a.la x.val = [OfNat.ofNat (108 : Nat), OfNat.ofNat (97 : Nat), OfNat.ofNat (98 : Nat), OfNat.ofNat (101 : Nat), OfNat.ofNat (108 : Nat), OfNat.ofNat (115 : Nat)] ∧ (↑(x.val + (1 : Nat)) : Int) = (1 : Int) ∧ True) ∧ ((d9 a.la = d9 a.la ∧ d46 a.qs = d46 a.qs ∧ True) ∧ True) ∧ True) ∧ ∀ (x : { k : Nat // k + (1 : Nat) ≤ a.la.length ∨ k = (0 : Nat) }), branch (decide ((↑(x.val + (1 : Nat)) : Int) < (↑a.la.length : Int))) (branch ((List.length (txL a.la x.val) + (1 : Nat)).ble (9223372036854775807 : Nat)) (branch (decide ((↑(x.val + (1 : Nat)) : Int) < (↑a.la.length : Int)) && true && true) (branch (((txL a.la x.val ++ [OfNat.ofNat (32 : Nat)]).length + List.length (a.la.getD (↑(x.val + (1 : Nat)) : Int).toNat [])).ble (9223372036854775807 : Nat)) (∃ (x' : { k : Nat // k + (1 : Nat) ≤ a.la.length ∨ k = (0 : Nat) }), a.la.length - x'.val < a.la.length - x.val ∧ (((0 : Nat) = (0 : Nat) ∧ (0 : Nat) = (0 : Nat)) ∧ txL a.la x'.val = txL a.la x.val ++ [OfNat.ofNat (32 : Nat)] ++ a.la.getD (↑(x.val + (1 : Nat)) : Int).toNat [] ∧ (↑(x'.val + (1 : Nat)) : Int) = IntKind.i64.wrap ((↑(x.val + (1 : Nat)) : Int) + (1 : Int)) ∧ True) ∧ ((d9 a.la = d9 a.la ∧ d46 a.qs = d46 a.qs ∧ True) ∧ True) ∧ True) False) False) False) (branch ((List.length (txL a.la x.val) + (1 : Nat)).ble (9223372036854775807 : Nat)) ((∃ (x_1 : { i : Nat // i ≤ a.qs.length }), (((0 : Nat) = (0 : Nat) ∧ (0 : Nat) = (0 : Nat)) ∧ txQ a.qs (txA a.la) x_1.val = txL a.la x.val ++ [OfNat.ofNat (10 : Nat)] ∧ (↑x_1.val : Int) = (0 : Int) ∧ True) ∧ ((d9 a.la = d9 a.la ∧ d46 a.qs = d46 a.qs ∧ True) ∧ True) ∧ True) ∧ ∀ (x : { i : Nat // i ≤ a.qs.length }), branch (decide ((↑x.val : Int) < (↑a.qs.length : Int))) (branch (decide ((↑x.val : Int) < (↑a.qs.length : Int)) && true && true) (branch ((List.length (txQ a.qs (txA a.la) x.val) + (6 : Nat)).ble (9223372036854775807 : Nat)) (branch (((txQ a.qs (txA a.la) x.val ++ [OfNat.ofNat (113 : Nat), OfNat.ofNat (117 : Nat), OfNat.ofNat (101 : Nat), OfNat.ofNat (117 : Nat), OfNat.ofNat (101 : Nat), OfNat.ofNat (32 : Nat)]).length + List.length (a.qs.getD (↑x.val : Int).toNat (Qu.mk [] [] (0 : Int))).path).ble (9223372036854775807 : Nat)) (branch (((txQ a.qs (txA a.la) x.val ++ [OfNat.ofNat (113 : Nat), OfNat.ofNat (117 : Nat), OfNat.ofNat (101 : Nat), OfNat.ofNat (117 : Nat), OfNat.ofNat (101 : Nat), OfNat.ofNat (32 : Nat)] ++ (a.qs.getD (↑x.val : Int).toNat (Qu.mk [] [] (0 : Int))).path).length + (1 : Nat)).ble (9223372036854775807 : Nat)) (branch ((SI (p22 (7 : Nat)) (q22 (7 : Nat))).pre (a.qs.getD (↑x.val : Int).toNat (Qu.mk [] [] (0 : Int))).user) (branch (((txQ a.qs (txA a.la) x.val ++ [OfNat.ofNat (113 : Nat), OfNat.ofNat (117 : Nat), OfNat.ofNat (101 : Nat), OfNat.ofNat (117 : Nat), OfNat.ofNat (101 : Nat), OfNat.ofNat (32 : Nat)] ++
 (a.qs.getD (↑x.val : Int).toNat (Qu.mk [] [] (0 : Int))).path ++ [OfNat.ofNat (32 : Nat)]).length + List.length (decN (7 : Nat) (a.qs.getD (↑x.val : Int).toNat (Qu.mk [] [] (0 : Int))).user)).ble (9223372036854775807 : Nat)) ((∃ (x_1 : { k : Nat // k ≤ (a.qs.getD x.val qd).caps.length }), (((0 : Nat) = (0 : Nat) ∧ (0 : Nat) = (0 : Nat)) ∧ txC (a.qs.getD x.val qd).caps (qHead (txQ a.qs (txA a.la) x.val) (a.qs.getD x.val qd)) x_1.val = txQ a.qs (txA a.la) x.val ++ [OfNat.ofNat (113 : Nat), OfNat.ofNat (117 : Nat), OfNat.ofNat (101 : Nat), OfNat.ofNat (117 : Nat), OfNat.ofNat (101 : Nat), OfNat.ofNat (32 : Nat)] ++ (a.qs.getD (↑x.val : Int).toNat (Qu.mk [] [] (0 : Int))).path ++ [OfNat.ofNat (32 : Nat)] ++ decN (7 : Nat) (a.qs.getD (↑x.val : Int).toNat (Qu.mk [] [] (0 : Int))).user ∧ (↑x.val : Int) = (↑x.val : Int) ∧ ((0 : Nat) = (0 : Nat) ∧ (0 : Nat) = (0 : Nat)) ∧ (↑x_1.val : Int) = (0 : Int) ∧ True) ∧ ((d9 a.la = d9 a.la ∧ d46 a.qs = d46 a.qs ∧ True) ∧ True) ∧ (((a.qs.getD x.val qd).path = (a.qs.getD (↑x.val : Int).toNat (Qu.mk [] [] (0 : Int))).path ∧ d48 (a.qs.getD x.val qd).caps = d48 (a.qs.getD (↑x.val : Int).toNat (Qu.mk [] [] (0 : Int))).caps ∧ (a.qs.getD x.val qd).user = (a.qs.getD (↑x.val : Int).toNat (Qu.mk [] [] (0 : Int))).user ∧ True) ∧ True) ∧ True) ∧ ∀ (x_1 : { k : Nat // k ≤ (a.qs.getD x.val qd).caps.length }), branch (decide ((↑x_1.val : Int) < (↑(a.qs.getD x.val qd).caps.length : Int))) (branch ((List.length (txC (a.qs.getD x.val qd).caps (qHead (txQ a.qs (txA a.la) x.val) (a.qs.getD x.val qd)) x_1.val) + (1 : Nat)).ble (9223372036854775807 : Nat)) (branch (decide ((↑x_1.val : Int) < (↑(a.qs.getD x.val qd).caps.length : Int)) && true && true) (branch ((SI (p22 (7 : Nat)) (q22 (7 : Nat))).pre ((a.qs.getD x.val qd).caps.getD (↑x_1.val : Int).toNat (Cp.mk (0 : Int) (0 : Int))).least) (branch (((txC (a.qs.getD x.val qd).caps (qHead (txQ a.qs (txA a.la) x.val) (a.qs.getD x.val qd)) x_1.val ++ [OfNat.ofNat (32 : Nat)]).length + List.length (decN (7 : Nat) ((a.qs.getD x.val qd).caps.getD (↑x_1.val : Int).toNat (Cp.mk (0 : Int) (0 : Int))).least)).ble (9223372036854775807 : Nat)) (branch (((txC (a.qs.getD x.val qd).caps (qHead (txQ a.qs (txA a.la) x.val) (a.qs.getD x.val qd)) x_1.val ++ [OfNat.ofNat (32 : Nat)] ++ decN (7 : Nat) ((a.qs.getD x.val qd).caps.getD (↑x_1.val : Int).toNat (Cp.mk (0 : Int) (0 : Int))).least).length + (1 : Nat)).ble (9223372036854775807 : Nat)) (branch (decide ((↑x_1.val : Int) < (↑(a.qs.getD x.val qd).caps.length : Int)) && true && true) (branch ((SI (p22 (7 : Nat)) (q22 (7 : Nat))).pre ((a.qs.getD x.val qd).caps.getD (↑x_1.val : Int).toNat (Cp.mk (0 : Int) (0 : Int))).most) (branch (((txC (a.qs.getD x.val qd).caps (qHead (txQ a.qs (txA a.la) x.val) (a.qs.getD x.val qd)) x_1.val ++ [OfNat.ofNat (32 : Nat)] ++ decN (7 : Nat) ((a.qs.getD x.val qd).caps.getD (↑x_1.val : Int).toNat (Cp.mk (0 : Int) (0 : Int))).least ++ [OfNat.ofNat (47 : Nat)]).length + List.length (decN (7 : Nat) ((a.qs.getD x.val qd).caps.getD
 (↑x_1.val : Int).toNat (Cp.mk (0 : Int) (0 : Int))).most)).ble (9223372036854775807 : Nat)) (∃ (x' : { k : Nat // k ≤ (a.qs.getD x.val qd).caps.length }), (a.qs.getD x.val qd).caps.length - x'.val < (a.qs.getD x.val qd).caps.length - x_1.val ∧ (((0 : Nat) = (0 : Nat) ∧ (0 : Nat) = (0 : Nat)) ∧ txC (a.qs.getD x.val qd).caps (qHead (txQ a.qs (txA a.la) x.val) (a.qs.getD x.val qd)) x'.val = txC (a.qs.getD x.val qd).caps (qHead (txQ a.qs (txA a.la) x.val) (a.qs.getD x.val qd)) x_1.val ++ [OfNat.ofNat (32 : Nat)] ++ decN (7 : Nat) ((a.qs.getD x.val qd).caps.getD (↑x_1.val : Int).toNat (Cp.mk (0 : Int) (0 : Int))).least ++ [OfNat.ofNat (47 : Nat)] ++ decN (7 : Nat) ((a.qs.getD x.val qd).caps.getD (↑x_1.val : Int).toNat (Cp.mk (0 : Int) (0 : Int))).most ∧ (↑x.val : Int) = (↑x.val : Int) ∧ ((0 : Nat) = (0 : Nat) ∧ (0 : Nat) = (0 : Nat)) ∧ (↑x'.val : Int) = IntKind.i64.wrap ((↑x_1.val : Int) + (1 : Int)) ∧ True) ∧ ((d9 a.la = d9 a.la ∧ d46 a.qs = d46 a.qs ∧ True) ∧ True) ∧ (((a.qs.getD x.val qd).path = (a.qs.getD x.val qd).path ∧ d48 (a.qs.getD x.val qd).caps = d48 (a.qs.getD x.val qd).caps ∧ (a.qs.getD x.val qd).user = (a.qs.getD x.val qd).user ∧ True) ∧ True) ∧ True) False) False) False) False) False) False) False) False) (branch ((List.length (txC (a.qs.getD x.val qd).caps (qHead (txQ a.qs (txA a.la) x.val) (a.qs.getD x.val qd)) x_1.val) + (1 : Nat)).ble (9223372036854775807 : Nat)) (∃ (x' : { i : Nat // i ≤ a.qs.length }), a.qs.length - x'.val < a.qs.length - x.val ∧ (((0 : Nat) = (0 : Nat) ∧ (0 : Nat) = (0 : Nat)) ∧ txQ a.qs (txA a.la) x'.val = txC (a.qs.getD x.val qd).caps (qHead (txQ a.qs (txA a.la) x.val) (a.qs.getD x.val qd)) x_1.val ++ [OfNat.ofNat (10 : Nat)] ∧ (↑x'.val : Int) = IntKind.i64.wrap ((↑x.val : Int) + (1 : Int)) ∧ True) ∧ ((d9 a.la = d9 a.la ∧ d46 a.qs = d46 a.qs ∧ True) ∧ True) ∧ True) False)) False) False) False) False) False) False) (textR a.la a.qs = txQ a.qs (txA a.la) x.val ∧ True)) False)) := by kernel_rfl

end Go.Proofs.YtaonjbojhikndaaDoor

namespace Go.Proofs.YtaonjbojhikndaaDoor
open Go Go.W Go.Proofs
set_option maxRecDepth 100000
theorem v3p (a : A3) : (YesP a) = ( branch (decide ((↑(List.length a.s) : Int) > (2500 : Int))) (true = true) (branch (!fewM a.r) (true = true) (branch (S13.pre (AT.mk (labM a.r.l) (makeQ a.r))) (branch (S15.pre (a.cut, IntKind.i64.wrap ((↑(List.length (textR (labM a.r.l) (makeQ a.r))) : Int) + (1 : Int)))) (∃ (x : { x : R7 // x.k ≤ List.length x.w ∧ List.length x.w ≤ (100000 : Nat) ∧ List.length a.s ≤ (2500 : Nat) }), (a.s = a.s ∧ d3 a.ns = d3 a.ns ∧ x.val.w = textR (labM a.r.l) (makeQ a.r) ∧ (↑x.val.k : Int) = wi a.cut (IntKind.i64.wrap ((↑(List.length (textR (labM a.r.l) (makeQ a.r))) : Int) + (1 : Int))) ∧ True) ∧ True) False ∧ ∀ (x : { x : R7 // x.k ≤ List.length x.w ∧ List.length x.w ≤ (100000 : Nat) ∧ List.length a.s ≤ (2500 : Nat) }), branch (decide ((↑x.val.k : Int) ≤ (↑(List.length x.val.w) : Int))) (branch (decide ((↑x.val.k : Int) ≤ (↑(List.length x.val.w) : Int)) && decide ((↑(List.length x.val.w) : Int) ≤ (↑(List.length x.val.w) : Int))) (branch (decide ((↑x.val.k : Int) ≤ (↑(List.length x.val.w) : Int))) (branch (((List.drop (0 : Nat) (List.take (↑x.val.k : Int).toNat x.val.w)).length + List.length (mixN a.ns)).ble (9223372036854775807 : Nat)) (branch (decide ((↑x.val.k : Int) ≤ (↑(List.length x.val.w) : Int)) && decide ((↑(List.length x.val.w) : Int) ≤ (↑(List.length x.val.w) : Int))) (branch (((List.drop (0 : Nat) (List.take (↑x.val.k : Int).toNat x.val.w) ++ mixN a.ns).length + (List.drop (↑x.val.k : Int).toNat (List.take (↑(List.length x.val.w) : Int).toNat x.val.w)).length).ble (9223372036854775807 : Nat)) (branch (((7 : Nat) + List.length (mixN a.ns)).ble (9223372036854775807 : Nat)) ((∃ (x_1 : { x : R9 // P9 x }), (((0 : Nat) = (0 : Nat) ∧ (7 : Nat) = (7 : Nat) ∧ Nat.le (0 : Nat) (7 : Nat)) ∧ (↑x_1.val.i : Int) = (0 : Int) ∧ True) ∧ o9 x_1.val.xs = o9 ([] ++ [a.s, x.val.w, List.drop (0 : Nat) (List.take (↑x.val.k : Int).toNat x.val.w), List.drop (↑x.val.k : Int).toNat (List.take (↑(List.length x.val.w) : Int).toNat x.val.w), List.drop (0 : Nat) (List.take (↑x.val.k : Int).toNat x.val.w) ++ mixN a.ns ++ List.drop (↑x.val.k : Int).toNat (List.take (↑(List.length x.val.w) : Int).toNat x.val.w), mixN a.ns, [OfNat.ofNat (108 : Nat), OfNat.ofNat (97 : Nat), OfNat.ofNat (98 : Nat), OfNat.ofNat (101 : Nat), OfNat.ofNat (108 : Nat), OfNat.ofNat (115 : Nat), OfNat.ofNat (10 : Nat)] ++ mixN a.ns]) ∧ True) ∧ ∀ (x : { x : R9 // P9 x }), branch (decide ((↑x.val.i : Int) < (7 : Int))) (branch (decide ((↑x.val.i : Int) < (7 : Int))) (branch (((0 : Nat) + (↑x.val.i : Int).toNat).blt x.val.xs.length) (branch (S17.pre (x.val.xs.getD ((0 : Nat) + (↑x.val.i : Int).toNat) [])) (branch (decide ((↑x.val.i : Int) < (7 : Int))) (branch (((0 : Nat) + (↑x.val.i : Int).toNat).blt x.val.xs.length) (branch ((SB sm s17).pre (x.val.xs.getD ((0 : Nat) + (↑x.val.i : Int).toNat) [])) (branch ((parseM (x.val.xs.getD ((0 : Nat) + (↑x.val.i : Int).toNat) [])).err != (parseM (x.val.xs.getD ((0 : Nat) + (↑x.val.i : Int).toNat) [])).err) (false = true) (branch
 (S19.pre (ASm.mk (parseM (x.val.xs.getD ((0 : Nat) + (↑x.val.i : Int).toNat) [])).labels (parseM (x.val.xs.getD ((0 : Nat) + (↑x.val.i : Int).toNat) [])).qs (parseM (x.val.xs.getD ((0 : Nat) + (↑x.val.i : Int).toNat) [])).labels (parseM (x.val.xs.getD ((0 : Nat) + (↑x.val.i : Int).toNat) [])).qs)) (branch (!sameM (ASm.mk (parseM (x.val.xs.getD ((0 : Nat) + (↑x.val.i : Int).toNat) [])).labels (parseM (x.val.xs.getD ((0 : Nat) + (↑x.val.i : Int).toNat) [])).qs (parseM (x.val.xs.getD ((0 : Nat) + (↑x.val.i : Int).toNat) [])).labels (parseM (x.val.xs.getD ((0 : Nat) + (↑x.val.i : Int).toNat) [])).qs)) (false = true) (∃ (x' : { x : R9 // P9 x }), (7 : Nat) - x'.val.i < (7 : Nat) - x.val.i ∧ (((0 : Nat) = (0 : Nat) ∧ (7 : Nat) = (7 : Nat) ∧ Nat.le (0 : Nat) (0 : Nat)) ∧ (↑x'.val.i : Int) = IntKind.i64.wrap ((↑x.val.i : Int) + (1 : Int)) ∧ True) ∧ o9 x'.val.xs = o9 x.val.xs ∧ True)) False)) False) False) False) False) False) False) (true = true)) False) False) False) False) False) False) False) False))) := by kernel_rfl

end Go.Proofs.YtaonjbojhikndaaDoor

namespace Go.Proofs.YtaonjbojhikndaaDoor
open Go Go.W
set_option maxRecDepth 100000
/-! ### Make -/
theorem mkCaps_len (cs : List Cp) : ∀ k, (mkCaps cs k).length = k
  | 0 => rfl
  | k + 1 => by show (mkCaps cs k ++ [_]).length = _; simp [mkCaps_len cs k]
theorem name_len {k : Nat} (h : k < 4) : (nameL.getD k []).length ≤ 3 := by
  have : k = 0 ∨ k = 1 ∨ k = 2 ∨ k = 3 := by omega
  rcases this with h | h | h | h <;> subst h <;> decide
theorem path_len (ns : List Int) : ∀ k, (pathM ns k).length ≤ 4 + 4 * k
  | 0 => by show 4 ≤ _; omega
  | k + 1 => by
    have ih := path_len ns k
    have hb := wi_big (ns.getD k 0) (n := 4) (by decide) (by decide)
    have := name_len (k := (wi (ns.getD k 0) 4).toNat) (by omega)
    show (pathM ns k ++ [46] ++ nameL.getD (wi (ns.getD k 0) 4).toNat []).length ≤ _
    rw [List.length_append, List.length_append]; simp only [List.length_cons, List.length_nil]; omega
theorem putM_mem {l : List Qu} {q z : Qu} (h : z ∈ putM l q) : z = q ∨ z ∈ l := by
  unfold putM at h
  cases hi : isF l q with
  | true => rw [hi] at h; exact .inr h
  | false => rw [hi] at h; exact insF_mem h
theorem putM_len (l : List Qu) (q : Qu) : (putM l q).length ≤ l.length + 1 := by
  unfold putM
  cases isF l q with
  | true => rw [cond_true]; omega
  | false => rw [cond_false, (insF_perm l q).length_eq]; exact Nat.le_refl _
theorem mkQs_len (n : Nat) (qs : List Rq) : ∀ k, (mkQs n qs k).length ≤ k
  | 0 => Nat.le_refl _
  | k + 1 => by
    have := mkQs_len n qs k
    have := putM_len (mkQs n qs k) (mkQ n (qs.getD k rqd))
    show (putM _ _).length ≤ _
    omega
theorem labM_len (l : Int) : (labM l).length ≤ 3 := by
  unfold labM
  rw [List.length_take]
  exact Nat.min_le_right _ _
theorem ok14 (a : AR) (_hp : S14.pre a = true) : Owes e28 14 S14 A14 (L14 a (labM a.l)) (J14 a (labM a.l)) (0 : Nat) a := by
  refine Owes.mk ?_
  rw [v14 a (labM a.l)]
  have hw := wi_big a.l (n := 3) (by decide) (by decide)
  have h3 := labM_len a.l
  have w0 : IntKind.i64.wrap (1 + wi a.l 3) = 1 + wi a.l 3 := by rw [wrap_id] <;> omega
  rw [w0]
  have e0 : 0 + (1 + wi a.l 3 - 0).toNat = 1 + (wi a.l 3).toNat := by omega
  rw [e0]
  refine brT (by rw [Bool.and_eq_true]; exact ⟨dT (by omega), dT (by omega)⟩) (brT (by rw [Bool.and_true, Bool.and_true]; exact Nat.ble_eq_true_of_le (by omega)) ?_)
  refine ⟨⟨⟨0, Nat.zero_le _, Nat.zero_le _⟩, ⟨⟨rfl, rfl⟩, ⟨rfl, rfl⟩, ⟨rfl, rfl⟩, rfl, trivial⟩, ⟨⟨rfl, rfl, trivial⟩, trivial⟩, ⟨⟨rfl, rfl, trivial⟩, trivial⟩, ⟨⟨rfl, rfl, trivial⟩, trivial⟩, trivial⟩, fun x => ?_⟩
  have x1 := x.2.1
  have x2 := x.2.2
  have ex : ((x.1 : Int)).toNat = x.1 := by simp
  have wx : IntKind.i64.wrap ((x.1 : Int) + 1) = ((x.1 + 1 : Nat) : Int) := by rw [wrap_id] <;> omega
  rw [ex, wx]
  refine br (fun hlt => br (fun h16 => brT ?_ ⟨⟨⟨⟨0, Nat.zero_le _, Nat.zero_le _⟩, ⟨⟨rfl, rfl⟩, ⟨rfl, rfl⟩, ⟨rfl, rfl⟩, rfl, ⟨rfl, rfl⟩, rfl, trivial⟩, ⟨⟨rfl, rfl, trivial⟩, trivial⟩, ⟨⟨rfl, rfl, trivial⟩, trivial⟩, ⟨⟨rfl, rfl, trivial⟩, trivial⟩, ⟨⟨rfl, rfl, rfl, trivial⟩, trivial⟩, trivial⟩, fun k => ?_⟩, fun u => ⟨⟨⟨0, Nat.zero_le _⟩, ⟨⟨rfl, rfl⟩, ⟨rfl, rfl⟩, ⟨rfl, rfl⟩, rfl, ⟨rfl, rfl⟩, rfl, trivial⟩, ⟨⟨rfl, rfl, trivial⟩, trivial⟩, ⟨⟨rfl, rfl, trivial⟩, trivial⟩, ⟨⟨rfl, rfl, trivial⟩, trivial⟩, ⟨⟨rfl, ⟨rfl, rfl, Nat.le_refl _⟩, rfl, trivial⟩, trivial⟩, rfl, trivial⟩, fun k => ?_⟩⟩) (fun h16 => ?_)) (fun hge => ?_)
  · rw [Bool.and_true, Bool.and_true]; exact hlt
  · have hlt : x.1 < a.qs.length := by simpa using hlt
    have h16 : x.1 < 16 := by have := of_decide_eq_true h16; omega
    have k1 := k.2.1
    have k2 := k.2.2
    have ek : ((k.1 : Int)).toNat = k.1 := by simp
    have wk : IntKind.i64.wrap ((k.1 : Int) + 1) = ((k.1 + 1 : Nat) : Int) := by rw [wrap_id] <;> omega
    have hb := wi_big ((a.qs.getD x.1 rqd).names.getD k.1 0) (n := 4) (by decide) (by decide)
    have hp := path_len (a.qs.getD x.1 rqd).names k.1
    have hn := name_len (k := (wi ((a.qs.getD x.1 rqd).names.getD k.1 0) 4).toNat) (by omega)
    rw [ek, wk, Nat.zero_add]
    refine brT (dTT (by omega)) (br (fun hk => br (fun h4 => ?_) (fun h4 => ?_)) (fun hk => ?_))
    · have hk : k.1 < (a.qs.getD x.1 rqd).names.length := by have := of_decide_eq_true hk; exact Int.ofNat_lt.1 this
      have h4 : k.1 < 4 := by have := of_decide_eq_true h4; omega
      refine brT (Nat.ble_eq_true_of_le (by omega)) (brT (dTT (by omega)) (brT (dTT (Int.ofNat_lt.2 hk)) (brT ?_ (brT ?_ (brT ?_ ?_)))))
      · rw [Bool.and_eq_true]; exact ⟨dT hb.1, dT hb.2⟩
      · exact Nat.ble_eq_true_of_le (show (wi ((a.qs.getD x.1 rqd).names.getD k.1 0) 4).toNat + 1 ≤ 4 by omega)
      · refine Nat.ble_eq_true_of_le ?_
        show (pathM (a.qs.getD x.1 rqd).names k.1 ++ [46]).length + (nameL.getD (wi ((a.qs.getD x.1 rqd).names.getD k.1 0) 4).toNat []).length ≤ _
        rw [List.length_append]; simp only [List.length_cons, List.length_nil]; omega
      · refine ⟨⟨k.1 + 1, hk, h4⟩, ?_, ⟨⟨rfl, rfl⟩, ⟨rfl, rfl⟩, ⟨rfl, rfl⟩, rfl, ⟨rfl, rfl⟩, rfl, trivial⟩, ⟨⟨rfl, rfl, trivial⟩, trivial⟩, ⟨⟨rfl, rfl, trivial⟩, trivial⟩, ⟨⟨rfl, rfl, trivial⟩, trivial⟩, ⟨⟨rfl, rfl, rfl, trivial⟩, trivial⟩, trivial⟩
        show (a.qs.getD x.1 rqd).names.length - (k.1 + 1) < _; omega
    · have h4 : k.1 = 4 := by
        have : ¬ (k.1 : Int) < 4 := of_decide_eq_false h4
        omega
      refine ⟨⟨0, hlt, h16⟩, ⟨⟨rfl, rfl⟩, ⟨rfl, rfl⟩, ⟨rfl, rfl⟩, rfl, ⟨rfl, rfl⟩, trivial⟩, ⟨⟨rfl, rfl, trivial⟩, trivial⟩, ⟨⟨rfl, rfl, trivial⟩, trivial⟩, ⟨⟨rfl, rfl, trivial⟩, trivial⟩, ⟨⟨?_, rfl, rfl, trivial⟩, trivial⟩, trivial⟩
      rw [show min (a.qs.getD x.1 rqd).names.length 4 = k.1 by omega]
    · have hk : ¬ k.1 < (a.qs.getD x.1 rqd).names.length := by
        have := of_decide_eq_false hk
        exact fun h => this (Int.ofNat_lt.2 h)
      refine ⟨⟨0, hlt, h16⟩, ⟨⟨rfl, rfl⟩, ⟨rfl, rfl⟩, ⟨rfl, rfl⟩, rfl, ⟨rfl, rfl⟩, trivial⟩, ⟨⟨rfl, rfl, trivial⟩, trivial⟩, ⟨⟨rfl, rfl, trivial⟩, trivial⟩, ⟨⟨rfl, rfl, trivial⟩, trivial⟩, ⟨⟨?_, rfl, rfl, trivial⟩, trivial⟩, trivial⟩
      rw [show min (a.qs.getD x.1 rqd).names.length 4 = k.1 by omega]
  · have hlt : x.1 < a.qs.length := by simpa using hlt
    have h16 : x.1 < 16 := by have := of_decide_eq_true h16; omega
    have k1 := k.2
    have ek : ((k.1 : Int)).toNat = k.1 := by simp
    have wk : IntKind.i64.wrap ((k.1 : Int) + 1) = ((k.1 + 1 : Nat) : Int) := by rw [wrap_id] <;> omega
    have hcl := mkCaps_len (a.qs.getD x.1 rqd).caps k.1
    rw [ek, wk]
    have step : ∀ c : Cp, capAt (a.qs.getD x.1 rqd).caps k.1 = c → k.1 < (labM a.l).length → o48 (mkCaps (a.qs.getD x.1 rqd).caps (k.1 + 1)) = o48 (List.take (mkCaps (a.qs.getD x.1 rqd).caps k.1).length (List.drop 0 (mkCaps (a.qs.getD x.1 rqd).caps k.1)) ++ [c]) := fun c hc _ => by
      rw [grow_o, ← hc]; rfl
    have hl1 : (mkCaps (a.qs.getD x.1 rqd).caps (k.1 + 1)).length = (mkCaps (a.qs.getD x.1 rqd).caps k.1).length + 1 := by rw [mkCaps_len, mkCaps_len]
    refine br (fun hk => brT (dTT (by omega)) (br (fun hc => ?_) (fun hc => ?_))) (fun hk => brT ?_ ?_)
    · have hk : k.1 < (labM a.l).length := by simpa using hk
      have hc : k.1 < (a.qs.getD x.1 rqd).caps.length := by have := of_decide_eq_true hc; exact Int.ofNat_lt.1 this
      refine brT (dTT (by omega)) (brT (dTT (Int.ofNat_lt.2 hc)) (brT (dTT (by omega)) (brT (dTT (Int.ofNat_lt.2 hc)) (brT (beq_z _) (brT (grow_b (by decide) (by omega)) ?_)))))
      refine ⟨⟨k.1 + 1, hk⟩, ?_, ⟨⟨rfl, rfl⟩, ⟨rfl, rfl⟩, ⟨rfl, rfl⟩, rfl, ⟨rfl, rfl⟩, rfl, trivial⟩, ⟨⟨rfl, rfl, trivial⟩, trivial⟩, ⟨⟨rfl, rfl, trivial⟩, trivial⟩, ⟨⟨rfl, rfl, trivial⟩, trivial⟩, ⟨⟨rfl, ⟨rfl, hl1, Nat.zero_le _⟩, rfl, trivial⟩, trivial⟩, ?_, trivial⟩
      · show (labM a.l).length - (k.1 + 1) < _; omega
      · refine step _ ?_ hk
        unfold capAt; rw [dT hc]; rfl
    · have hk : k.1 < (labM a.l).length := by simpa using hk
      have hc : ¬ k.1 < (a.qs.getD x.1 rqd).caps.length := by
        have := of_decide_eq_false hc
        exact fun h => this (Int.ofNat_lt.2 h)
      refine brT (beq_z _) (brT (grow_b (by decide) (by omega)) ?_)
      refine ⟨⟨k.1 + 1, hk⟩, ?_, ⟨⟨rfl, rfl⟩, ⟨rfl, rfl⟩, ⟨rfl, rfl⟩, rfl, ⟨rfl, rfl⟩, rfl, trivial⟩, ⟨⟨rfl, rfl, trivial⟩, trivial⟩, ⟨⟨rfl, rfl, trivial⟩, trivial⟩, ⟨⟨rfl, rfl, trivial⟩, trivial⟩, ⟨⟨rfl, ⟨rfl, hl1, Nat.zero_le _⟩, rfl, trivial⟩, trivial⟩, ?_, trivial⟩
      · show (labM a.l).length - (k.1 + 1) < _; omega
      · refine step _ ?_ hk
        unfold capAt; rw [dF hc]; rfl
    · show AP.fine _ = true
      have := mkQs_len (labM a.l).length a.qs x.1
      simp only [AP.fine, Bool.and_eq_true]
      exact ⟨⟨Nat.beq_refl _, Nat.ble_eq_true_of_le (by omega)⟩, Nat.ble_eq_true_of_le (by omega)⟩
    · have hk : ¬ k.1 < (labM a.l).length := by simpa using hk
      have hk : k.1 = (labM a.l).length := by omega
      refine ⟨⟨x.1 + 1, hlt, h16⟩, ?_, ⟨⟨rfl, rfl⟩, ⟨rfl, rfl⟩, ⟨rfl, rfl⟩, rfl, trivial⟩, ⟨⟨rfl, rfl, trivial⟩, trivial⟩, ⟨⟨rfl, rfl, trivial⟩, trivial⟩, ⟨⟨rfl, ?_, trivial⟩, trivial⟩, trivial⟩
      · show a.qs.length - (x.1 + 1) < _; omega
      · rw [hk]; rfl
  · have h16 : x.1 = 16 := by
      have : ¬ (x.1 : Int) < 16 := of_decide_eq_false h16
      omega
    refine ⟨⟨rfl, ?_, trivial⟩, trivial⟩
    unfold makeQ
    rw [show min a.qs.length 16 = x.1 by omega]
  · have hge : ¬ x.1 < a.qs.length := by simpa using hge
    refine ⟨⟨rfl, ?_, trivial⟩, trivial⟩
    unfold makeQ
    rw [show min a.qs.length 16 = x.1 by omega]
theorem k14 : SpecOk Tryd.prog 14 S14 := spec_loop e28_sound (by kernel_rfl) (fun _ => A14) (fun a => L14 a (labM a.l)) (fun a => J14 a (labM a.l)) (fun _ => 0) ok14
theorem a14 : RowOK 14 (S14.con M14) := Spec.con_ok k14 M14 (fun _ => Nat.le_of_ble_eq_true rfl)
/-! ### Text -/
structure AT.Fine (a : AT) : Prop where
  l : a.la.length ≤ 10
  ls : ∀ j, (a.la.getD j []).length ≤ 100
  q : a.qs.length ≤ 20
  qs : ∀ j, j < a.qs.length → fitQ (a.qs.getD j qd) = true
theorem AT.fine_is {a : AT} (h : a.fine = true) : a.Fine := by
  simp only [AT.fine, Bool.and_eq_true] at h
  refine ⟨Nat.le_of_ble_eq_true h.1.1.1, fun j => ?_, Nat.le_of_ble_eq_true h.1.2, fun j hj => List.all_eq_true.1 h.2 _ (by simp [List.getD, hj])⟩
  by_cases hj : j < a.la.length
  · exact Nat.le_of_ble_eq_true (List.all_eq_true.1 h.1.1.2 _ (getD_mem hj))
  · rw [List.getD_eq_getElem?_getD, List.getElem?_eq_none (by omega)]; exact Nat.zero_le _
structure FitQ (q : Qu) : Prop where
  p : q.path.length ≤ 100
  c : q.caps.length ≤ 10
  u : p22 7 q.user = true
  cs : ∀ j, j < q.caps.length → p22 7 (q.caps.getD j cd).least = true ∧ p22 7 (q.caps.getD j cd).most = true
theorem fitQ_is {q : Qu} (h : fitQ q = true) : FitQ q := by
  simp only [fitQ, Bool.and_eq_true] at h
  refine ⟨Nat.le_of_ble_eq_true h.1.1.1, Nat.le_of_ble_eq_true h.1.1.2, h.1.2, fun j hj => ?_⟩
  have := List.all_eq_true.1 h.2 (q.caps.getD j cd) (by simp [List.getD, hj])
  simpa [fitC] using this
theorem txL_len {a : AT} (h : a.Fine) : ∀ k, (txL a.la k).length ≤ 6 + 101 * k
  | 0 => Nat.le_refl _
  | k + 1 => by
    have := txL_len h k
    have := h.ls (k + 1)
    show (txL a.la k ++ [32] ++ _).length ≤ _
    rw [List.length_append, List.length_append]; simp only [List.length_cons, List.length_nil]; omega
theorem dec7 (n : Int) : (decN 7 n).length ≤ 128 := dec_len 7 n
theorem txC_len (cs : List Cp) (a : B) : ∀ k, (txC cs a k).length ≤ a.length + 258 * k
  | 0 => Nat.le_refl _
  | k + 1 => by
    have := txC_len cs a k
    have := dec7 (cs.getD k cd).least
    have := dec7 (cs.getD k cd).most
    show (txC cs a k ++ [32] ++ _ ++ [47] ++ _).length ≤ _
    rw [List.length_append, List.length_append, List.length_append, List.length_append]; simp only [List.length_cons, List.length_nil]; omega
theorem qHead_len {q : Qu} (h : FitQ q) (a : B) : (qHead a q).length ≤ a.length + 235 := by
  have := dec7 q.user
  have := h.p
  unfold qHead
  rw [List.length_append, List.length_append, List.length_append, List.length_append]; simp only [List.length_cons, List.length_nil]; omega
theorem txQ_len {a : AT} (h : a.Fine) (t : B) : ∀ k, k ≤ a.qs.length → (txQ a.qs t k).length ≤ t.length + 2816 * k
  | 0, _ => Nat.le_refl _
  | k + 1, hk => by
    have := txQ_len h t k (by omega)
    have hf := fitQ_is (h.qs k (by omega))
    have := qHead_len hf (txQ a.qs t k)
    have := txC_len (a.qs.getD k qd).caps (qHead (txQ a.qs t k) (a.qs.getD k qd)) (a.qs.getD k qd).caps.length
    have := hf.c
    show (txC _ _ _ ++ [10]).length ≤ _
    rw [List.length_append]; simp only [List.length_cons, List.length_nil]; omega
theorem txA_len {a : AT} (h : a.Fine) : (txA a.la).length ≤ 1017 := by
  have := txL_len h (a.la.length - 1)
  have := h.l
  unfold txA
  rw [List.length_append]; simp only [List.length_cons, List.length_nil]; omega
theorem text_len {a : AT} (h : a.Fine) : (textR a.la a.qs).length ≤ 60000 := by
  have := txQ_len h (txA a.la) a.qs.length (Nat.le_refl _)
  have := txA_len h
  have := h.q
  show (txQ _ _ _).length ≤ _
  omega
theorem ok13 (a : AT) (hp : S13.pre a = true) : OwesN e29 13 S13 (fun _ => []) (L13 a) noJ (0 : Nat) a := by
  refine OwesN.mk ?_
  rw [v13]
  have hf := AT.fine_is (a := a) hp
  have f1 := hf.l
  have f3 := hf.q
  have fA := txA_len hf
  refine ⟨⟨⟨0, .inr rfl⟩, ⟨⟨rfl, rfl⟩, rfl, rfl, trivial⟩, ⟨⟨rfl, rfl, trivial⟩, trivial⟩, trivial⟩, fun x => ?_⟩
  have x1 := x.2
  have x2 := txL_len hf x.1
  have x3 := hf.ls (x.1 + 1)
  have ex : (((x.1 + 1 : Nat) : Int)).toNat = x.1 + 1 := by simp
  have wx : IntKind.i64.wrap (((x.1 + 1 : Nat) : Int) + 1) = ((x.1 + 1 + 1 : Nat) : Int) := by rw [wrap_id] <;> omega
  rw [ex, wx]
  refine br (fun hlt => ?_) (fun hge => ?_)
  · have hlt : x.1 + 1 < a.la.length := by have := of_decide_eq_true hlt; omega
    refine brT (Nat.ble_eq_true_of_le (by omega)) (brT (dTT (by omega)) (brT (Nat.ble_eq_true_of_le ?_) ?_))
    · rw [List.length_append]; simp only [List.length_cons, List.length_nil]; omega
    · refine ⟨⟨x.1 + 1, .inl (by omega)⟩, ?_, ⟨⟨rfl, rfl⟩, rfl, rfl, trivial⟩, ⟨⟨rfl, rfl, trivial⟩, trivial⟩, trivial⟩
      show a.la.length - (x.1 + 1) < _; omega
  have hge : ¬ x.1 + 1 < a.la.length := by
    have := of_decide_eq_false hge
    omega
  have hxA : txA a.la = txL a.la x.1 ++ [10] := by
    unfold txA
    rw [show a.la.length - 1 = x.1 by omega]
  refine brT (Nat.ble_eq_true_of_le (by omega)) ⟨⟨⟨0, Nat.zero_le _⟩, ⟨⟨rfl, rfl⟩, hxA, rfl, trivial⟩, ⟨⟨rfl, rfl, trivial⟩, trivial⟩, trivial⟩, fun y => ?_⟩
  have y1 := y.2
  have y2 := txQ_len hf (txA a.la) y.1 y1
  have ey : ((y.1 : Int)).toNat = y.1 := by simp
  have wy : IntKind.i64.wrap ((y.1 : Int) + 1) = ((y.1 + 1 : Nat) : Int) := by rw [wrap_id] <;> omega
  rw [ey, wy]
  refine br (fun hlt => ?_) (fun hge => ?_)
  · have hlt : y.1 < a.qs.length := by simpa using hlt
    have hq := fitQ_is (hf.qs y.1 hlt)
    have q1 := hq.p
    have q2 := hq.c
    have q3 := qHead_len hq (txQ a.qs (txA a.la) y.1)
    have q4 := dec7 (a.qs.getD y.1 qd).user
    refine brT (dTT (by omega)) (brT (Nat.ble_eq_true_of_le (by omega)) (brT (Nat.ble_eq_true_of_le ?_) (brT (Nat.ble_eq_true_of_le ?_) (brT ?_ (brT (Nat.ble_eq_true_of_le ?_) ?_)))))
    · show (txQ a.qs (txA a.la) y.1 ++ [113, 117, 101, 117, 101, 32]).length + (a.qs.getD y.1 qd).path.length ≤ _
      rw [List.length_append]; simp only [List.length_cons, List.length_nil]; omega
    · show (txQ a.qs (txA a.la) y.1 ++ [113, 117, 101, 117, 101, 32] ++ (a.qs.getD y.1 qd).path).length + 1 ≤ _
      rw [List.length_append, List.length_append]; simp only [List.length_cons, List.length_nil]; omega
    · exact hq.u
    · show (txQ a.qs (txA a.la) y.1 ++ [113, 117, 101, 117, 101, 32] ++ (a.qs.getD y.1 qd).path ++ [32]).length + (decN 7 (a.qs.getD y.1 qd).user).length ≤ _
      rw [List.length_append, List.length_append, List.length_append]; simp only [List.length_cons, List.length_nil]; omega
    refine ⟨⟨⟨0, Nat.zero_le _⟩, ⟨⟨rfl, rfl⟩, rfl, rfl, ⟨rfl, rfl⟩, rfl, trivial⟩, ⟨⟨rfl, rfl, trivial⟩, trivial⟩, ⟨⟨rfl, rfl, rfl, trivial⟩, trivial⟩, trivial⟩, fun z => ?_⟩
    have z1 := z.2
    have z2 := txC_len (a.qs.getD y.1 qd).caps (qHead (txQ a.qs (txA a.la) y.1) (a.qs.getD y.1 qd)) z.1
    have ez : ((z.1 : Int)).toNat = z.1 := by simp
    have wz : IntKind.i64.wrap ((z.1 : Int) + 1) = ((z.1 + 1 : Nat) : Int) := by rw [wrap_id] <;> omega
    rw [ez, wz]
    refine br (fun hl3 => ?_) (fun hg3 => ?_)
    · have hl3 : z.1 < (a.qs.getD y.1 qd).caps.length := by have := of_decide_eq_true hl3; exact Int.ofNat_lt.1 this
      have c1 := hq.cs z.1 hl3
      have d1 := dec7 ((a.qs.getD y.1 qd).caps.getD z.1 cd).least
      have d2 := dec7 ((a.qs.getD y.1 qd).caps.getD z.1 cd).most
      refine brT (Nat.ble_eq_true_of_le (by omega)) (brT (dTT (Int.ofNat_lt.2 hl3)) (brT c1.1 (brT (Nat.ble_eq_true_of_le ?_) (brT (Nat.ble_eq_true_of_le ?_) (brT (dTT (Int.ofNat_lt.2 hl3)) (brT c1.2 (brT (Nat.ble_eq_true_of_le ?_) ?_)))))))
      · show (txC _ _ z.1 ++ [32]).length + (decN 7 ((a.qs.getD y.1 qd).caps.getD z.1 cd).least).length ≤ _
        rw [List.length_append]; simp only [List.length_cons, List.length_nil]; omega
      · show (txC _ _ z.1 ++ [32] ++ decN 7 ((a.qs.getD y.1 qd).caps.getD z.1 cd).least).length + 1 ≤ _
        rw [List.length_append, List.length_append]; simp only [List.length_cons, List.length_nil]; omega
      · show (txC _ _ z.1 ++ [32] ++ decN 7 ((a.qs.getD y.1 qd).caps.getD z.1 cd).least ++ [47]).length + (decN 7 ((a.qs.getD y.1 qd).caps.getD z.1 cd).most).length ≤ _
        rw [List.length_append, List.length_append, List.length_append]; simp only [List.length_cons, List.length_nil]; omega
      · refine ⟨⟨z.1 + 1, hl3⟩, ?_, ⟨⟨rfl, rfl⟩, rfl, rfl, ⟨rfl, rfl⟩, rfl, trivial⟩, ⟨⟨rfl, rfl, trivial⟩, trivial⟩, ⟨⟨rfl, rfl, rfl, trivial⟩, trivial⟩, trivial⟩
        show (a.qs.getD y.1 qd).caps.length - (z.1 + 1) < _; omega
    · have hg3 : ¬ z.1 < (a.qs.getD y.1 qd).caps.length := by
        have := of_decide_eq_false hg3
        exact fun h => this (Int.ofNat_lt.2 h)
      have hz : z.1 = (a.qs.getD y.1 qd).caps.length := by omega
      refine brT (Nat.ble_eq_true_of_le (by omega)) ⟨⟨y.1 + 1, hlt⟩, ?_, ⟨⟨rfl, rfl⟩, ?_, rfl, trivial⟩, ⟨⟨rfl, rfl, trivial⟩, trivial⟩, trivial⟩
      · show a.qs.length - (y.1 + 1) < _; omega
      · rw [hz]; rfl
  · have hge : ¬ y.1 < a.qs.length := by simpa using hge
    refine ⟨?_, trivial⟩
    exact congrArg (txQ a.qs (txA a.la)) (show a.qs.length = y.1 by omega)
theorem k13 : SpecOk Tryd.prog 13 S13 := spec_loopN e29_sound (by kernel_rfl) (fun _ _ => []) L13 (fun _ => noJ) (fun _ => 0) ok13
theorem a13 : RowOK 13 (S13.con M13) := Spec.con_ok k13 M13 (fun _ => Nat.le_of_ble_eq_true rfl)
theorem K30_ok : ConOk Tryd.prog K30 := con_cons a11 (con_cons a12 (con_cons a13 (con_cons a14 (con_cons a15 (con_cons a16 (con_cons a17 (con_cons a18 (con_cons a19 con_nil))))))))
theorem e30_sound : HdSound Tryd.prog e30 := hdT_sound mixed hno K30_ok _ _ _
/-! ### What Parse answers is small; a configuration is the same as itself -/
structure SmallR (M : Nat) (r : Rd) : Prop where
  l : r.labels.length ≤ 3
  q : r.qs.length ≤ 16
  c : ∀ q ∈ r.qs, q.caps.length ≤ M
theorem line_small {M : Nat} {r : Rd} (h : SmallR M r) {w : List B} (hw : w.length ≤ M) : SmallR M (lineM r w).1 := by
  unfold lineM
  cases c0 : decide (w.length = 0) with
  | true => exact h
  | false =>
    cases (!r.seen && w.getD 0 [] == wLabels) with
    | true =>
      cases c3 : decide (3 < w.length) with
      | true => exact ⟨h.l, h.q, h.c⟩
      | false =>
        have c3 := of_decide_eq_false c3
        have c0 := of_decide_eq_false c0
        refine ⟨?_, h.q, h.c⟩
        show (([] : B) :: w.drop 1).length ≤ 3
        simp only [List.length_cons, List.length_drop]; omega
    | false =>
      cases (!r.seen || w.getD 0 [] != wQueue) with
      | true => exact h
      | false =>
        cases c4 : decide ((r.qs.length : Int) ≥ 16) with
        | true => exact h
        | false =>
          have c4 := of_decide_eq_false c4
          cases (decide (w.length = 3 + r.labels.length) && oksM w (w.length - 3)) with
          | false => exact h
          | true =>
            refine ⟨h.l, ?_, fun q hq => ?_⟩
            · show (r.qs ++ [newQ w]).length ≤ 16
              rw [List.length_append]; simp only [List.length_cons, List.length_nil]; omega
            · rcases List.mem_append.1 (show q ∈ r.qs ++ [newQ w] from hq) with hq | hq
              · exact h.c q hq
              · rw [List.mem_singleton.1 hq]
                have := caps_len w (w.length - 3)
                show (capsM w (w.length - 3)).length ≤ M
                omega
theorem run_small {M : Nat} : ∀ (ls : List B) {r : Rd}, SmallR M r → (∀ l ∈ ls, (wordsM l).length ≤ M) → SmallR M (runM r ls).1
  | [], r, h, _ => h
  | l :: ls, r, h, hl => by
    have h1 := line_small h (hl l List.mem_cons_self)
    show SmallR M (bif (lineM r (wordsM l)).2 == 0 then runM (lineM r (wordsM l)).1 ls else lineM r (wordsM l)).1
    cases (lineM r (wordsM l)).2 == 0 with
    | false => exact h1
    | true => exact run_small ls h1 (fun l hl' => hl l (List.mem_cons_of_mem _ hl'))
structure SmallP (p : PM) : Prop where
  l : p.labels.length ≤ 3
  q : p.qs.length ≤ 16
  c : ∀ q ∈ p.qs, q.caps.length ≤ 2001
theorem parse_small (s : B) : SmallP (parseM s) := by
  have nil : ∀ e, SmallP ⟨[], [], e⟩ := fun e => ⟨Nat.zero_le _, Nat.zero_le _, fun q hq => by cases hq⟩
  unfold parseM
  cases h0 : decide ((s.length : Int) > 2000) with
  | true => exact nil _
  | false =>
    have h2000 : s.length ≤ 2000 := by
      have := of_decide_eq_false h0
      omega
    have hs : SmallR 2001 (runM rd0 (textM s)).1 := by
      refine run_small _ ⟨Nat.zero_le _, Nat.zero_le _, fun q hq => by cases hq⟩ (fun l hl => ?_)
      have := words_len l
      have := split_mem 10 s l hl
      omega
    cases (runM rd0 (textM s)).2 != 0 with
    | true => exact nil _
    | false =>
      cases (!(runM rd0 (textM s)).1.seen) with
      | true => exact nil _
      | false =>
        cases dupTo (ordM (runM rd0 (textM s)).1) (runM rd0 (textM s)).1.qs.length with
        | true => exact nil _
        | false =>
          have hp : (ordM (runM rd0 (textM s)).1).Perm (runM rd0 (textM s)).1.qs := by
            unfold ordM
            rw [order_all]; exact (List.reverse_perm _).trans (sortR_perm _)
          exact ⟨hs.l, by show (ordM _).length ≤ 16; rw [hp.length_eq]; exact hs.q, fun q hq => hs.c q (hp.mem_iff.1 hq)⟩
theorem sameQ_refl (q : Qu) : sameQ q q = true := by
  unfold sameQ
  rw [beq_self_eq_true, beq_self_eq_true, dT rfl, allI_all (fun k _ => by unfold sameC; rw [beq_self_eq_true, beq_self_eq_true]; rfl)]; rfl
theorem same_refl (l : List B) (q : List Qu) : sameM ⟨l, q, l, q⟩ = true := by
  unfold sameM
  rw [dT rfl, dT rfl, allI_all (fun i _ => by unfold ASm.lp; exact beq_self_eq_true _), allI_all (p := ASm.qp ⟨l, q, l, q⟩) (fun i _ => sameQ_refl _)]; rfl
theorem small_same (s : B) (l : List B) (q : List Qu) : ASm.fine ⟨(parseM s).labels, (parseM s).qs, l, q⟩ = true := by
  have h := parse_small s
  simp only [ASm.fine, Bool.and_eq_true]
  exact ⟨⟨Nat.ble_eq_true_of_le (Nat.le_trans h.l (by decide)), Nat.ble_eq_true_of_le (Nat.le_trans h.q (by decide))⟩, List.all_eq_true.2 fun q hq => Nat.ble_eq_true_of_le (Nat.le_trans (h.c q hq) (by decide))⟩
/-! ### What is made fits -/
theorem p22_7 {n : Int} (h1 : 0 ≤ n) (h2 : n < 100000000) : p22 7 n = true := p22_of h1 h2
theorem capAt_fit (cs : List Cp) (k : Nat) : fitC (capAt cs k) = true := by
  unfold capAt fitC
  cases decide (k < cs.length) with
  | false => show (p22 7 10000 && p22 7 10000) = true; decide
  | true =>
    have h1 := wi_big (cs.getD k cd).least (n := 10001) (by decide) (by decide)
    have h2 := wi_big (cs.getD k cd).most (n := 10001) (by decide) (by decide)
    rw [cond_true, Bool.and_eq_true]
    exact ⟨p22_7 h1.1 (by have := h1.2; show wi _ 10001 < _; omega), p22_7 h2.1 (by have := h2.2; show wi _ 10001 < _; omega)⟩
theorem mkCaps_fit (cs : List Cp) : ∀ k, (mkCaps cs k).all fitC = true
  | 0 => rfl
  | k + 1 => by
    show (mkCaps cs k ++ [capAt cs k]).all fitC = true
    rw [List.all_append, mkCaps_fit cs k, List.all_cons, capAt_fit]; rfl
theorem mkQ_fit {n : Nat} (hn : n ≤ 3) (r : Rq) : fitQ (mkQ n r) = true := by
  have h1 := path_len r.names (min r.names.length 4)
  have h2 := mkCaps_len r.caps n
  have h3 := wi_big r.user (n := 1000000) (by decide) (by decide)
  simp only [fitQ, Bool.and_eq_true]
  refine ⟨⟨⟨Nat.ble_eq_true_of_le ?_, Nat.ble_eq_true_of_le ?_⟩, p22_7 h3.1 (by have := h3.2; show wi _ 1000000 < _; omega)⟩, mkCaps_fit _ _⟩
  · show (pathM r.names (min r.names.length 4)).length ≤ 100
    omega
  · show (mkCaps r.caps n).length ≤ 10
    omega
theorem mkQs_fit {n : Nat} (hn : n ≤ 3) (qs : List Rq) : ∀ k, ∀ q ∈ mkQs n qs k, fitQ q = true
  | 0, q, h => by cases h
  | k + 1, q, h => by
    rcases putM_mem (show q ∈ putM (mkQs n qs k) (mkQ n (qs.getD k rqd)) from h) with h | h
    · rw [h]; exact mkQ_fit hn _
    · exact mkQs_fit hn qs k q h
theorem make_fine (a : AR) : AT.fine ⟨labM a.l, makeQ a⟩ = true := by
  have h3 := labM_len a.l
  have hq := mkQs_len (labM a.l).length a.qs (min a.qs.length 16)
  simp only [AT.fine, Bool.and_eq_true]
  refine ⟨⟨⟨Nat.ble_eq_true_of_le (by omega), List.all_eq_true.2 fun l hl => ?_⟩, Nat.ble_eq_true_of_le (by show (mkQs _ _ _).length ≤ 20; omega)⟩, List.all_eq_true.2 (mkQs_fit h3 _ _)⟩
  have hm : l ∈ lab3 := List.mem_of_mem_take hl
  have : l = [] ∨ l = [103, 112, 117] ∨ l = [115, 115, 100] := by simpa [lab3] using hm
  rcases this with h | h | h <;> subst h <;> exact Nat.ble_eq_true_of_le (by decide)
structure YesPF (a : A3) : Prop where
  go : YesP a
theorem parses_yes (a : A3) : YesPF a := by
  refine YesPF.mk ?_
  rw [v3p]
  have hf := make_fine a.r
  have hT := text_len (AT.fine_is hf)
  have hT : (textR (labM a.r.l) (makeQ a.r)).length ≤ 60000 := hT
  have hm := mix_len a.ns (min a.ns.length 60)
  have hm : (mixN a.ns).length ≤ 720 := by
    show (mixM _ _).length ≤ _
    omega
  generalize hw : textR (labM a.r.l) (makeQ a.r) = t at hT ⊢
  have w1 : IntKind.i64.wrap ((t.length : Int) + 1) = ((t.length + 1 : Nat) : Int) := by rw [wrap_id] <;> omega
  rw [w1]
  have hb := wi_big a.cut (n := ((t.length + 1 : Nat) : Int)) (by omega) (by omega)
  refine br (fun _ => rfl) (fun hs => br (fun _ => rfl) (fun _ => brT hf ⟨brT (dT (by show (0 : Int) < ((t.length + 1 : Nat) : Int); omega)) ?_, fun x => ?_⟩))
  · have hs : ¬ (a.s.length : Int) > 2500 := of_decide_eq_false hs
    refine ⟨⟨⟨t, (wi a.cut ((t.length + 1 : Nat) : Int)).toNat⟩, by show (wi _ _).toNat ≤ t.length; omega, by show t.length ≤ 100000; omega, by omega⟩, ⟨rfl, rfl, rfl, ?_, trivial⟩, trivial⟩
    show (((wi a.cut ((t.length + 1 : Nat) : Int)).toNat : Nat) : Int) = _
    omega
  have x1 := x.2.1
  have x2 := x.2.2.1
  have x3 := x.2.2.2
  have ex : ((x.1.k : Int)).toNat = x.1.k := by simp
  have el : ((x.1.w.length : Int)).toNat = x.1.w.length := by simp
  rw [ex, el, List.take_length, List.drop_zero]
  have l1 : (List.take x.1.k x.1.w).length = x.1.k := by rw [List.length_take]; omega
  have l2 : (List.drop x.1.k x.1.w).length = x.1.w.length - x.1.k := List.length_drop
  refine brT (dT (by omega)) (brT ?_ (brT (dT (by omega)) (brT (Nat.ble_eq_true_of_le (by omega)) (brT ?_ (brT (Nat.ble_eq_true_of_le (by rw [List.length_append]; omega)) (brT (Nat.ble_eq_true_of_le (by omega)) ⟨⟨⟨⟨0, _⟩, Nat.zero_le _, ?_, ?_⟩, ⟨⟨rfl, rfl, Nat.zero_le _⟩, rfl, trivial⟩, rfl, trivial⟩, fun y => ?_⟩))))))
  · rw [Bool.and_eq_true]; exact ⟨dT (by omega), dT (Int.le_refl _)⟩
  · rw [Bool.and_eq_true]; exact ⟨dT (by omega), dT (Int.le_refl _)⟩
  · rfl
  · intro u hu
    have hu : u ∈ [a.s, x.1.w, List.take x.1.k x.1.w, List.drop x.1.k x.1.w, List.take x.1.k x.1.w ++ mixN a.ns ++ List.drop x.1.k x.1.w, mixN a.ns, [108, 97, 98, 101, 108, 115, 10] ++ mixN a.ns] := hu
    simp only [List.mem_cons, List.not_mem_nil, or_false] at hu
    refine Nat.ble_eq_true_of_le ?_
    rcases hu with h | h | h | h | h | h | h <;> subst h
    · omega
    · omega
    · omega
    · omega
    · rw [List.length_append, List.length_append]; omega
    · omega
    · rw [List.length_append]; simp only [List.length_cons, List.length_nil]; omega
  · have y1 := y.2.i
    have y2 := y.2.n
    have y3 := y.2.sm
    have ey : ((y.1.i : Int)).toNat = y.1.i := by simp
    have wy : IntKind.i64.wrap ((y.1.i : Int) + 1) = ((y.1.i + 1 : Nat) : Int) := by rw [wrap_id] <;> omega
    rw [ey, wy, Nat.zero_add]
    refine br (fun hlt => ?_) (fun _ => rfl)
    have hlt : y.1.i < 7 := by have := of_decide_eq_true hlt; omega
    have hsm := y3 _ (getD_mem (w := y.1.xs) (i := y.1.i) (by omega))
    have hbl : Nat.blt y.1.i y.1.xs.length = true := Nat.ble_eq_true_of_le (show y.1.i + 1 ≤ y.1.xs.length by omega)
    refine brT (dT (by omega)) (brT hbl (brT hsm (brT (dT (by omega)) (brT hbl (brT hsm (brF ?_ (brT (small_same _ _ _) (brF ?_ ?_))))))))
    · exact bne_self_eq_false _
    · rw [same_refl]; rfl
    · refine ⟨⟨⟨y.1.i + 1, y.1.xs⟩, hlt, y2, y3⟩, ?_, ⟨⟨rfl, rfl, Nat.zero_le _⟩, rfl, trivial⟩, rfl, trivial⟩
      show 7 - (y.1.i + 1) < _; omega
end Go.Proofs.YtaonjbojhikndaaDoor
