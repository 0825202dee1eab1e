/- The reference's reader of lines; its Parse: forms. No conditions. -/
import Derived.Test.YtaonjbojhikndaaDoorJa
namespace Go.Proofs.YtaonjbojhikndaaDoor
open Go Go.W Go.Proofs
set_option maxRecDepth 100000
theorem v30 (a : AC) : (OwesD e0 (30 : Nat) S30 A30 (L30 a) noJ () a) = ( (∃ (x : { x : R30 // P30 a x }), (a.s = a.s ∧ (↑a.c : Int) = (↑a.c : Int) ∧ ((0 : Nat) = (0 : Nat) ∧ x.val.l.length = (0 : Nat) ∧ Nat.le (0 : Nat) (0 : Nat)) ∧ (↑x.val.p : Int) = (0 : Int) ∧ (↑x.val.i : Int) = (0 : Int) ∧ True) ∧ o9 x.val.l = o9 [] ∧ True) ∧ ∀ (x : { x : R30 // P30 a x }), branch (decide ((↑x.val.i : Int) < (↑(List.length a.s) : Int))) (branch (decide ((↑x.val.i : Int) < (↑(List.length a.s) : Int))) (branch ((↑(List.getD a.s (↑x.val.i : Int).toNat (OfNat.ofNat (0 : Nat))).toNat : Int) == (↑a.c : Int)) (branch (decide ((↑x.val.p : Int) ≤ (↑x.val.i : Int)) && decide ((↑x.val.i : Int) ≤ (↑(List.length a.s) : Int))) (branch (((0 : Nat) + x.val.l.length).beq x.val.l.length) (branch (((x.val.l.length + (1 : Nat)) * (16 : Nat)).ble (140737488355328 : Nat) && (x.val.l.length + (1 : Nat)).ble (9223372036854775807 : Nat) && true && true && ((0 : Nat) + x.val.l.length).ble x.val.l.length) (∃ (x' : { x : R30 // P30 a x }), List.length a.s - x'.val.i < List.length a.s - x.val.i ∧ (a.s = a.s ∧ (↑a.c : Int) = (↑a.c : Int) ∧ ((0 : Nat) = (0 : Nat) ∧ x'.val.l.length = x.val.l.length + (1 : Nat) ∧ Nat.le (0 : Nat) (x.val.l.length + (1 : Nat))) ∧ (↑x'.val.p : Int) = IntKind.i64.wrap ((↑x.val.i : Int) + (1 : Int)) ∧ (↑x'.val.i : Int) = IntKind.i64.wrap ((↑x.val.i : Int) + (1 : Int)) ∧ True) ∧ o9 x'.val.l = o9 (List.take x.val.l.length (List.drop (0 : Nat) x.val.l) ++ [List.drop (↑x.val.p : Int).toNat (List.take (↑x.val.i : Int).toNat a.s)]) ∧ True) False) False) False) (∃ (x' : { x : R30 // P30 a x }), List.length a.s - x'.val.i < List.length a.s - x.val.i ∧ (a.s = a.s ∧ (↑a.c : Int) = (↑a.c : Int) ∧ ((0 : Nat) = (0 : Nat) ∧ x'.val.l.length = x.val.l.length ∧ Nat.le (0 : Nat) (0 : Nat)) ∧ (↑x'.val.p : Int) = (↑x.val.p : Int) ∧ (↑x'.val.i : Int) = IntKind.i64.wrap ((↑x.val.i : Int) + (1 : Int)) ∧ True) ∧ o9 x'.val.l = o9 x.val.l ∧ True)) False) (branch (decide ((↑x.val.p : Int) < (↑(List.length a.s) : Int))) (branch (decide ((↑x.val.p : Int) ≤ (↑(List.length a.s) : Int)) && decide ((↑(List.length a.s) : Int) ≤ (↑(List.length a.s) : Int))) (branch (((0 : Nat) + x.val.l.length).beq x.val.l.length) (branch (((x.val.l.length + (1 : Nat)) * (16 : Nat)).ble (140737488355328 : Nat) && (x.val.l.length + (1 : Nat)).ble (9223372036854775807 : Nat) && true && true && ((0 : Nat) + x.val.l.length).ble x.val.l.length) (branch (((0 : Nat) + (x.val.l.length + (1 : Nat))).ble (List.take x.val.l.length (List.drop (0 : Nat) x.val.l) ++ [List.drop (↑x.val.p : Int).toNat (List.take (↑(List.length a.s) : Int).toNat a.s)]).length) (d9 (cutR (UInt8.ofNat a.c) a.s) = d9 (List.drop (0 : Nat) (List.take ((0 : Nat) + (x.val.l.length + (1 : Nat))) (List.take x.val.l.length (List.drop (0 : Nat) x.val.l) ++ [List.drop (↑x.val.p : Int).toNat (List.take (↑(List.length a.s) : Int).toNat a.s)]))) ∧ True) False) False) False) False) (branch (((0 : Nat) + x.val.l.length).ble x.val.l.length) (d9 (cutR (UInt8.ofNat
 a.c) a.s) = d9 (List.drop (0 : Nat) (List.take ((0 : Nat) + x.val.l.length) x.val.l)) ∧ True) False))) := by kernel_rfl
theorem v31 (s : B) : (OwesD e21 (31 : Nat) (SB sm s26) A31 (L31 s) noJ () s) = ( branch (S30.pre (AC.mk s (32 : Nat))) ((∃ (x : { i : Nat // i ≤ (cutR (32 : UInt8) s).length }), (s = s ∧ ((0 : Nat) = (0 : Nat) ∧ (keep (List.take x.val (cutR (OfNat.ofNat (32 : Nat)) s))).length = (0 : Nat) ∧ Nat.le (0 : Nat) (0 : Nat)) ∧ d9 (cutR (OfNat.ofNat (32 : Nat)) s) = d9 (cutR (UInt8.ofNat (32 : Nat)) s) ∧ (↑x.val : Int) = (0 : Int) ∧ True) ∧ o9 (keep (List.take x.val (cutR (OfNat.ofNat (32 : Nat)) s))) = o9 [] ∧ True) ∧ ∀ (x : { i : Nat // i ≤ (cutR (32 : UInt8) s).length }), branch (decide ((↑x.val : Int) < (↑(cutR (OfNat.ofNat (32 : Nat)) s).length : Int))) (branch (decide ((↑x.val : Int) < (↑(cutR (OfNat.ofNat (32 : Nat)) s).length : Int)) && true && true) (branch (!(cutR (OfNat.ofNat (32 : Nat)) s).getD (↑x.val : Int).toNat [] == []) (branch (decide ((↑x.val : Int) < (↑(cutR (OfNat.ofNat (32 : Nat)) s).length : Int)) && true && true) (branch (((0 : Nat) + (keep (List.take x.val (cutR (OfNat.ofNat (32 : Nat)) s))).length).beq (keep (List.take x.val (cutR (OfNat.ofNat (32 : Nat)) s))).length) (branch ((((keep (List.take x.val (cutR (OfNat.ofNat (32 : Nat)) s))).length + (1 : Nat)) * (16 : Nat)).ble (140737488355328 : Nat) && ((keep (List.take x.val (cutR (OfNat.ofNat (32 : Nat)) s))).length + (1 : Nat)).ble (9223372036854775807 : Nat) && true && true && ((0 : Nat) + (keep (List.take x.val (cutR (OfNat.ofNat (32 : Nat)) s))).length).ble (keep (List.take x.val (cutR (OfNat.ofNat (32 : Nat)) s))).length) (∃ (x' : { i : Nat // i ≤ (cutR (32 : UInt8) s).length }), (cutR (OfNat.ofNat (32 : Nat)) s).length - x'.val < (cutR (OfNat.ofNat (32 : Nat)) s).length - x.val ∧ (s = s ∧ ((0 : Nat) = (0 : Nat) ∧ (keep (List.take x'.val (cutR (OfNat.ofNat (32 : Nat)) s))).length = (keep (List.take x.val (cutR (OfNat.ofNat (32 : Nat)) s))).length + (1 : Nat) ∧ Nat.le (0 : Nat) ((keep (List.take x.val (cutR (32 : UInt8) s))).length + (1 : Nat))) ∧ d9 (cutR (OfNat.ofNat (32 : Nat)) s) = d9 (cutR (OfNat.ofNat (32 : Nat)) s) ∧ (↑x'.val : Int) = IntKind.i64.wrap ((↑x.val : Int) + (1 : Int)) ∧ True) ∧ o9 (keep (List.take x'.val (cutR (OfNat.ofNat (32 : Nat)) s))) = o9 (List.take (keep (List.take x.val (cutR (OfNat.ofNat (32 : Nat)) s))).length (List.drop (0 : Nat) (keep (List.take x.val (cutR (OfNat.ofNat (32 : Nat)) s)))) ++ [(cutR (OfNat.ofNat (32 : Nat)) s).getD (↑x.val : Int).toNat []]) ∧ True) False) False) False) (∃ (x' : { i : Nat // i ≤ (cutR (32 : UInt8) s).length }), (cutR (OfNat.ofNat (32 : Nat)) s).length - x'.val < (cutR (OfNat.ofNat (32 : Nat)) s).length - x.val ∧ (s = s ∧ ((0 : Nat) = (0 : Nat) ∧ (keep (List.take x'.val (cutR (OfNat.ofNat (32 : Nat)) s))).length = (keep (List.take x.val (cutR (OfNat.ofNat (32 : Nat)) s))).length ∧ Nat.le (0 : Nat) (0 : Nat)) ∧ d9 (cutR (OfNat.ofNat (32 : Nat)) s) = d9 (cutR (OfNat.ofNat (32 : Nat)) s) ∧ (↑x'.val : Int) = IntKind.i64.wrap ((↑x.val : Int) + (1 : Int)) ∧ True) ∧ o9 (keep (List.take x'.val (cutR (OfNat.ofNat (32 :
 Nat)) s))) = o9 (keep (List.take x.val (cutR (OfNat.ofNat (32 : Nat)) s))) ∧ True)) False) (branch (((0 : Nat) + (keep (List.take x.val (cutR (OfNat.ofNat (32 : Nat)) s))).length).ble (keep (List.take x.val (cutR (OfNat.ofNat (32 : Nat)) s))).length) (d9 (wordsM s) = d9 (List.drop (0 : Nat) (List.take ((0 : Nat) + (keep (List.take x.val (cutR (OfNat.ofNat (32 : Nat)) s))).length) (keep (List.take x.val (cutR (OfNat.ofNat (32 : Nat)) s))))) ∧ True) False)) False) := by kernel_rfl
theorem v44 (s : B) : (OwesD e0 (44 : Nat) (SB sm s47) (fun (_ : Nat) => []) (L44 s) noJ () s) = ( branch (decide ((↑(List.length s) : Int) < (1 : Int))) (((numM s).fst = (0 : Int) ∧ (numM s).snd = false ∧ True) ∧ True) (branch (decide ((↑(List.length s) : Int) > (7 : Int))) (((numM s).fst = (0 : Int) ∧ (numM s).snd = false ∧ True) ∧ True) (branch (decide ((0 : Int) < (↑(List.length s) : Int))) (branch ((↑(List.getD s (0 : Nat) (OfNat.ofNat (0 : Nat))).toNat : Int) == (48 : Int)) (branch (decide ((↑(List.length s) : Int) > (1 : Int))) (((numM s).fst = (0 : Int) ∧ (numM s).snd = false ∧ True) ∧ True) ((∃ (x : { i : Nat // i ≤ List.length s ∧ (1 : Nat) ≤ List.length s ∧ List.length s ≤ (7 : Nat) ∧ zeroLed s = false ∧ allD (List.take i s) = true }), (s = s ∧ valM (List.take x.val s) = (0 : Int) ∧ (↑x.val : Int) = (0 : Int) ∧ True) ∧ True) ∧ ∀ (x : { i : Nat // i ≤ List.length s ∧ (1 : Nat) ≤ List.length s ∧ List.length s ≤ (7 : Nat) ∧ zeroLed s = false ∧ allD (List.take i s) = true }), branch (decide ((↑x.val : Int) < (↑(List.length s) : Int))) (branch (decide ((↑x.val : Int) < (↑(List.length s) : Int))) (branch (decide ((↑(List.getD s (↑x.val : Int).toNat (OfNat.ofNat (0 : Nat))).toNat : Int) < (48 : Int))) (((numM s).fst = (0 : Int) ∧ (numM s).snd = false ∧ True) ∧ True) (branch (decide ((↑x.val : Int) < (↑(List.length s) : Int))) (branch (decide ((↑(List.getD s (↑x.val : Int).toNat (OfNat.ofNat (0 : Nat))).toNat : Int) > (57 : Int))) (((numM s).fst = (0 : Int) ∧ (numM s).snd = false ∧ True) ∧ True) (branch (decide ((↑x.val : Int) < (↑(List.length s) : Int))) (∃ (x' : { i : Nat // i ≤ List.length s ∧ (1 : Nat) ≤ List.length s ∧ List.length s ≤ (7 : Nat) ∧ zeroLed s = false ∧ allD (List.take i s) = true }), List.length s - x'.val < List.length s - x.val ∧ (s = s ∧ valM (List.take x'.val s) = IntKind.i64.wrap (IntKind.i64.wrap (valM (List.take x.val s) * (10 : Int)) + IntKind.i64.wrap (IntKind.u8.wrap ((↑(List.getD s (↑x.val : Int).toNat (OfNat.ofNat (0 : Nat))).toNat : Int) - (48 : Int)))) ∧ (↑x'.val : Int) = IntKind.i64.wrap ((↑x.val : Int) + (1 : Int)) ∧ True) ∧ True) False)) False)) False) (((numM s).fst = valM (List.take x.val s) ∧ (numM s).snd = true ∧ True) ∧ True))) ((∃ (x : { i : Nat // i ≤ List.length s ∧ (1 : Nat) ≤ List.length s ∧ List.length s ≤ (7 : Nat) ∧ zeroLed s = false ∧ allD (List.take i s) = true }), (s = s ∧ valM (List.take x.val s) = (0 : Int) ∧ (↑x.val : Int) = (0 : Int) ∧ True) ∧ True) ∧ ∀ (x : { i : Nat // i ≤ List.length s ∧ (1 : Nat) ≤ List.length s ∧ List.length s ≤ (7 : Nat) ∧ zeroLed s = false ∧ allD (List.take i s) = true }), branch (decide ((↑x.val : Int) < (↑(List.length s) : Int))) (branch (decide ((↑x.val : Int) < (↑(List.length s) : Int))) (branch (decide ((↑(List.getD s (↑x.val : Int).toNat (OfNat.ofNat (0 : Nat))).toNat : Int) < (48 : Int))) (((numM s).fst = (0 : Int) ∧ (numM s).snd = false ∧ True) ∧ True) (branch (decide ((↑x.val : Int) < (↑(List.length s) : Int))) (branch (decide ((↑(List.getD s (↑x.val :
 Int).toNat (OfNat.ofNat (0 : Nat))).toNat : Int) > (57 : Int))) (((numM s).fst = (0 : Int) ∧ (numM s).snd = false ∧ True) ∧ True) (branch (decide ((↑x.val : Int) < (↑(List.length s) : Int))) (∃ (x' : { i : Nat // i ≤ List.length s ∧ (1 : Nat) ≤ List.length s ∧ List.length s ≤ (7 : Nat) ∧ zeroLed s = false ∧ allD (List.take i s) = true }), List.length s - x'.val < List.length s - x.val ∧ (s = s ∧ valM (List.take x'.val s) = IntKind.i64.wrap (IntKind.i64.wrap (valM (List.take x.val s) * (10 : Int)) + IntKind.i64.wrap (IntKind.u8.wrap ((↑(List.getD s (↑x.val : Int).toNat (OfNat.ofNat (0 : Nat))).toNat : Int) - (48 : Int)))) ∧ (↑x'.val : Int) = IntKind.i64.wrap ((↑x.val : Int) + (1 : Int)) ∧ True) ∧ True) False)) False)) False) (((numM s).fst = valM (List.take x.val s) ∧ (numM s).snd = true ∧ True) ∧ True))) False))) := by kernel_rfl
theorem v45 (s : B) : (OwesD e22 (45 : Nat) (SB sm s45) (fun (_ : Nat) => []) (L45 s) noJ () s) = ( (∃ (x : { i : Nat // i ≤ List.length s ∧ ∀ (j : Nat), j < i → List.getD s j (0 : UInt8) ≠ (47 : UInt8) }), (s = s ∧ ((0 : Nat) = (0 : Nat) ∧ (0 : Nat) = (0 : Nat)) ∧ (↑x.val : Int) = (0 : Int) ∧ True) ∧ (((0 : Int) = (0 : Int) ∧ (0 : Int) = (0 : Int) ∧ True) ∧ True) ∧ True) ∧ ∀ (x : { i : Nat // i ≤ List.length s ∧ ∀ (j : Nat), j < i → List.getD s j (0 : UInt8) ≠ (47 : UInt8) }), branch (decide ((↑x.val : Int) < (↑(List.length s) : Int))) (branch (decide ((↑x.val : Int) < (↑(List.length s) : Int))) (branch ((↑(List.getD s (↑x.val : Int).toNat (OfNat.ofNat (0 : Nat))).toNat : Int) != (47 : Int)) (∃ (x' : { i : Nat // i ≤ List.length s ∧ ∀ (j : Nat), j < i → List.getD s j (0 : UInt8) ≠ (47 : UInt8) }), List.length s - x'.val < List.length s - x.val ∧ (s = s ∧ ((0 : Nat) = (0 : Nat) ∧ (0 : Nat) = (0 : Nat)) ∧ (↑x'.val : Int) = IntKind.i64.wrap ((↑x.val : Int) + (1 : Int)) ∧ True) ∧ (((0 : Int) = (0 : Int) ∧ (0 : Int) = (0 : Int) ∧ True) ∧ True) ∧ True) (branch ((↑x.val : Int) == (↑(List.length s) : Int)) ((((shareR s).fst.least = (0 : Int) ∧ (shareR s).fst.most = (0 : Int) ∧ True) ∧ (shareR s).snd = false ∧ True) ∧ True) (branch (decide ((↑x.val : Int) ≤ (↑(List.length s) : Int))) (branch ((SB sm s47).pre (List.drop (0 : Nat) (List.take (↑x.val : Int).toNat s))) (branch (decide ((0 : Int) ≤ IntKind.i64.wrap ((↑x.val : Int) + (1 : Int))) && decide (IntKind.i64.wrap ((↑x.val : Int) + (1 : Int)) ≤ (↑(List.length s) : Int)) && decide ((↑(List.length s) : Int) ≤ (↑(List.length s) : Int))) (branch ((SB sm s47).pre (List.drop (IntKind.i64.wrap ((↑x.val : Int) + (1 : Int))).toNat (List.take (↑(List.length s) : Int).toNat s))) (branch (numM (List.drop (0 : Nat) (List.take (↑x.val : Int).toNat s))).snd ((((shareR s).fst.least = (numM (List.drop (0 : Nat) (List.take (↑x.val : Int).toNat s))).fst ∧ (shareR s).fst.most = (numM (List.drop (IntKind.i64.wrap ((↑x.val : Int) + (1 : Int))).toNat (List.take (↑(List.length s) : Int).toNat s))).fst ∧ True) ∧ (shareR s).snd = (numM (List.drop (IntKind.i64.wrap ((↑x.val : Int) + (1 : Int))).toNat (List.take (↑(List.length s) : Int).toNat s))).snd ∧ True) ∧ True) ((((shareR s).fst.least = (numM (List.drop (0 : Nat) (List.take (↑x.val : Int).toNat s))).fst ∧ (shareR s).fst.most = (numM (List.drop (IntKind.i64.wrap ((↑x.val : Int) + (1 : Int))).toNat (List.take (↑(List.length s) : Int).toNat s))).fst ∧ True) ∧ (shareR s).snd = false ∧ True) ∧ True)) False) False) False) False))) False) (branch ((↑x.val : Int) == (↑(List.length s) : Int)) ((((shareR s).fst.least = (0 : Int) ∧ (shareR s).fst.most = (0 : Int) ∧ True) ∧ (shareR s).snd = false ∧ True) ∧ True) (branch (decide ((↑x.val : Int) ≤ (↑(List.length s) : Int))) (branch ((SB sm s47).pre (List.drop (0 : Nat) (List.take (↑x.val : Int).toNat s))) (branch (decide ((0 : Int) ≤ IntKind.i64.wrap ((↑x.val : Int) + (1 : Int))) && decide (IntKind.i64.wrap ((↑x.val : Int) + (1 : Int))
 ≤ (↑(List.length s) : Int)) && decide ((↑(List.length s) : Int) ≤ (↑(List.length s) : Int))) (branch ((SB sm s47).pre (List.drop (IntKind.i64.wrap ((↑x.val : Int) + (1 : Int))).toNat (List.take (↑(List.length s) : Int).toNat s))) (branch (numM (List.drop (0 : Nat) (List.take (↑x.val : Int).toNat s))).snd ((((shareR s).fst.least = (numM (List.drop (0 : Nat) (List.take (↑x.val : Int).toNat s))).fst ∧ (shareR s).fst.most = (numM (List.drop (IntKind.i64.wrap ((↑x.val : Int) + (1 : Int))).toNat (List.take (↑(List.length s) : Int).toNat s))).fst ∧ True) ∧ (shareR s).snd = (numM (List.drop (IntKind.i64.wrap ((↑x.val : Int) + (1 : Int))).toNat (List.take (↑(List.length s) : Int).toNat s))).snd ∧ True) ∧ True) ((((shareR s).fst.least = (numM (List.drop (0 : Nat) (List.take (↑x.val : Int).toNat s))).fst ∧ (shareR s).fst.most = (numM (List.drop (IntKind.i64.wrap ((↑x.val : Int) + (1 : Int))).toNat (List.take (↑(List.length s) : Int).toNat s))).fst ∧ True) ∧ (shareR s).snd = false ∧ True) ∧ True)) False) False) False) False))) := by kernel_rfl
theorem v32 (a : AW) : (OwesD e23 (32 : Nat) S32 A32 (L32 a) noJ () a) = ( branch ((↑a.w.length : Int) != IntKind.i64.wrap ((3 : Int) + a.n)) ((((queueR a.w a.n).fst.path = [] ∧ (queueR a.w a.n).fst.caps = [] ∧ (queueR a.w a.n).fst.user = (0 : Int) ∧ True) ∧ (queueR a.w a.n).snd = false ∧ True) ∧ True) (branch (decide ((0 : Int) < (↑a.w.length : Int)) && true && true) (branch (!a.w.getD (0 : Nat) [] == [OfNat.ofNat (113 : Nat), OfNat.ofNat (117 : Nat), OfNat.ofNat (101 : Nat), OfNat.ofNat (117 : Nat), OfNat.ofNat (101 : Nat)]) ((((queueR a.w a.n).fst.path = [] ∧ (queueR a.w a.n).fst.caps = [] ∧ (queueR a.w a.n).fst.user = (0 : Int) ∧ True) ∧ (queueR a.w a.n).snd = false ∧ True) ∧ True) (branch (decide ((2 : Int) < (↑a.w.length : Int)) && true && true) (branch ((SB sm s47).pre (a.w.getD (2 : Nat) [])) (branch (decide ((1 : Int) < (↑a.w.length : Int)) && true && true) ((∃ (x : { x : R32 // P32 a x }), (d9 a.w = d9 a.w ∧ ((0 : Nat) = (0 : Nat) ∧ (0 : Nat) = (0 : Nat)) ∧ x.val.ok = (numM (a.w.getD (2 : Nat) [])).snd ∧ ((0 : Nat) = (0 : Nat) ∧ (0 : Nat) = (0 : Nat)) ∧ (↑x.val.i : Int) = (3 : Int) ∧ True) ∧ ((nilB = [] ∧ nilsD = D.nils ∧ (0 : Int) = (0 : Int) ∧ True) ∧ True) ∧ ((a.w.getD (1 : Nat) [] = a.w.getD (1 : Nat) [] ∧ ((0 : Nat) = (0 : Nat) ∧ x.val.cs.length = (0 : Nat) ∧ Nat.le (0 : Nat) (0 : Nat)) ∧ (numM (a.w.getD (2 : Nat) [])).fst = (numM (a.w.getD (2 : Nat) [])).fst ∧ True) ∧ True) ∧ o48 x.val.cs = o48 [] ∧ True) ∧ ∀ (x : { x : R32 // P32 a x }), branch (decide ((↑x.val.i : Int) < (↑a.w.length : Int))) (branch x.val.ok (branch (decide ((↑x.val.i : Int) < (↑a.w.length : Int)) && true && true) (branch ((SB sm s45).pre (a.w.getD (↑x.val.i : Int).toNat [])) (branch (((0 : Nat) + x.val.cs.length).beq x.val.cs.length) (branch (((x.val.cs.length + (1 : Nat)) * (16 : Nat)).ble (140737488355328 : Nat) && (x.val.cs.length + (1 : Nat)).ble (9223372036854775807 : Nat) && true && true && ((0 : Nat) + x.val.cs.length).ble x.val.cs.length) (∃ (x' : { x : R32 // P32 a x }), a.w.length - x'.val.i < a.w.length - x.val.i ∧ (d9 a.w = d9 a.w ∧ ((0 : Nat) = (0 : Nat) ∧ (0 : Nat) = (0 : Nat)) ∧ x'.val.ok = (shareR (a.w.getD (↑x.val.i : Int).toNat [])).snd ∧ ((0 : Nat) = (0 : Nat) ∧ (0 : Nat) = (0 : Nat)) ∧ (↑x'.val.i : Int) = IntKind.i64.wrap ((↑x.val.i : Int) + (1 : Int)) ∧ True) ∧ ((nilB = [] ∧ nilsD = D.nils ∧ (0 : Int) = (0 : Int) ∧ True) ∧ True) ∧ ((a.w.getD (1 : Nat) [] = a.w.getD (1 : Nat) [] ∧ ((0 : Nat) = (0 : Nat) ∧ x'.val.cs.length = x.val.cs.length + (1 : Nat) ∧ Nat.le (0 : Nat) (x.val.cs.length + (1 : Nat))) ∧ (numM (a.w.getD (2 : Nat) [])).fst = (numM (a.w.getD (2 : Nat) [])).fst ∧ True) ∧ True) ∧ o48 x'.val.cs = o48 (List.take x.val.cs.length (List.drop (0 : Nat) x.val.cs) ++ [(shareR (a.w.getD (↑x.val.i : Int).toNat [])).fst]) ∧ True) False) False) False) False) (branch (((0 : Nat) + x.val.cs.length).ble x.val.cs.length && true && true) (branch (((0 : Nat) + x.val.cs.length).ble x.val.cs.length && true && true) (branch (((0 : Nat) +
 x.val.cs.length).ble x.val.cs.length && true && true) ((((queueR a.w a.n).fst.path = a.w.getD (1 : Nat) [] ∧ d48 (queueR a.w a.n).fst.caps = d48 (List.drop (0 : Nat) (List.take ((0 : Nat) + x.val.cs.length) x.val.cs)) ∧ (queueR a.w a.n).fst.user = (numM (a.w.getD (2 : Nat) [])).fst ∧ True) ∧ (queueR a.w a.n).snd = x.val.ok ∧ True) ∧ True) False) False) False)) (branch (((0 : Nat) + x.val.cs.length).ble x.val.cs.length && true && true) (branch (((0 : Nat) + x.val.cs.length).ble x.val.cs.length && true && true) (branch (((0 : Nat) + x.val.cs.length).ble x.val.cs.length && true && true) ((((queueR a.w a.n).fst.path = a.w.getD (1 : Nat) [] ∧ d48 (queueR a.w a.n).fst.caps = d48 (List.drop (0 : Nat) (List.take ((0 : Nat) + x.val.cs.length) x.val.cs)) ∧ (queueR a.w a.n).fst.user = (numM (a.w.getD (2 : Nat) [])).fst ∧ True) ∧ (queueR a.w a.n).snd = x.val.ok ∧ True) ∧ True) False) False) False)) False) False) False)) False)) := by kernel_rfl

end Go.Proofs.YtaonjbojhikndaaDoor

namespace Go.Proofs.YtaonjbojhikndaaDoor
open Go Go.W
set_option maxRecDepth 100000
theorem grow_d {α : Type} (xs : List α) (y : α) : List.drop 0 (List.take (0 + (xs.length + 1)) (List.take xs.length (List.drop 0 xs) ++ [y])) = xs ++ [y] := by
  rw [List.drop_zero, List.drop_zero, List.take_length, List.take_of_length_le (by simp)]
theorem grow_o {α : Type} (xs : List α) (y : α) : List.take xs.length (List.drop 0 xs) ++ [y] = xs ++ [y] := by
  rw [List.drop_zero, List.take_length]
theorem whole_d {α : Type} (xs : List α) : List.drop 0 (List.take (0 + xs.length) xs) = xs := by
  rw [Nat.zero_add, List.take_length, List.drop_zero]
theorem beq_z (n : Nat) : Nat.beq (0 + n) n = true := by rw [Nat.zero_add]; exact Nat.beq_refl _
theorem ble_z (n : Nat) : Nat.ble (0 + n) n = true := by rw [Nat.zero_add]; exact Nat.ble_eq_true_of_le (Nat.le_refl _)
theorem grow_b {n k : Nat} (hk : k ≤ 1000) (h : n ≤ 1000000) : (((n + 1) * k).ble 140737488355328 && (n + 1).ble 9223372036854775807 && true && true && (0 + n).ble n) = true := by
  simp only [Bool.and_eq_true]
  have : (n + 1) * k ≤ 1000001 * 1000 := Nat.mul_le_mul (by omega) hk
  exact ⟨⟨⟨⟨Nat.ble_eq_true_of_le (by omega), Nat.ble_eq_true_of_le (by omega)⟩, trivial⟩, trivial⟩, ble_z n⟩
theorem byte_is {b : UInt8} {c : Nat} (hc : c < 256) (h : ((b.toNat : Int) == (c : Int)) = true) : b = UInt8.ofNat c := by
  have h : (b.toNat : Int) = (c : Int) := beq_iff_eq.1 h
  have h : b.toNat = c := by omega
  apply UInt8.toNat.inj
  rw [UInt8.toNat_ofNat_of_lt' hc]; exact h
theorem byte_isnt {b : UInt8} {c : Nat} (hc : c < 256) (h : ((b.toNat : Int) == (c : Int)) = false) : b ≠ UInt8.ofNat c := by
  intro e
  subst e
  rw [UInt8.toNat_ofNat_of_lt' hc] at h
  simp at h
theorem trimE_le : ∀ l : List B, (trimE l).length ≤ l.length
  | [] => Nat.le_refl _
  | [p] => by unfold trimE; cases p == [] <;> simp
  | p :: q :: l => by
    have := trimE_le (q :: l)
    show (trimE (q :: l)).length + 1 ≤ _
    simp at this ⊢; omega
theorem cutR_le (c : UInt8) (s : B) : (cutR c s).length ≤ s.length + 1 := by
  have h1 := trimE_le (splitM c s)
  have h2 := splitM_len c s
  have h3 : s.count c ≤ s.length := List.count_le_length
  show (trimE (splitM c s)).length ≤ _
  omega
theorem keep_trim : ∀ l : List B, keep (trimE l) = keep l
  | [] => rfl
  | [p] => by
    unfold trimE
    cases h : p == [] with
    | true => rw [beq_iff_eq.1 h]; rfl
    | false => rfl
  | p :: q :: l => by
    have ih := keep_trim (q :: l)
    unfold keep at ih ⊢
    show List.filter _ (p :: trimE (q :: l)) = List.filter _ (p :: (q :: l))
    rw [List.filter_cons, List.filter_cons, ih]
theorem ok30 (a : AC) (hp : S30.pre a = true) : Owes e0 30 S30 A30 (L30 a) noJ () a := by
  refine Owes.mk ?_
  rw [v30]
  have hp : AC.fine a = true := hp
  simp only [AC.fine, Bool.and_eq_true] at hp
  have hc : a.c < 256 := Nat.le_of_ble_eq_true (show Nat.ble (a.c + 1) 256 = true from hp.1)
  have hs := sm_le hp.2
  refine ⟨⟨⟨⟨[], 0, 0⟩, Nat.le_refl _, Nat.zero_le _, Nat.le_refl _, rfl, fun j h1 h2 => absurd h2 (Nat.not_lt_zero _)⟩, ⟨rfl, rfl, ⟨rfl, rfl, Nat.le_refl _⟩, rfl, rfl, trivial⟩, rfl, trivial⟩, fun x => ?_⟩
  have hx := x.2
  have x1 := hx.le
  have x2 := hx.i
  have x3 := hx.l
  have x4 := hx.go
  have x5 := hx.no
  have e1 : ((x.1.i : Int)).toNat = x.1.i := by simp
  have e2 : ((x.1.p : Int)).toNat = x.1.p := by simp
  have e3 : ((a.s.length : Int)).toNat = a.s.length := by simp
  have w1 : IntKind.i64.wrap ((x.1.i : Int) + 1) = ((x.1.i + 1 : Nat) : Int) := by rw [wrap_id] <;> omega
  rw [e1, e2, e3, w1]
  refine br (fun hlt => ?_) (fun hge => ?_)
  · have hlt : x.1.i < a.s.length := by simpa using hlt
    refine brT (dT (by omega)) (br (fun h1 => ?_) (fun h1 => ?_))
    · have h1 := byte_is hc h1
      refine brT (by simp; omega) (brT (beq_z _) (brT (grow_b (by decide) (by omega)) ?_))
      have hsp := split_first (c := UInt8.ofNat a.c) (l := a.s.drop x.1.p) (m := x.1.i - x.1.p) (by simp; omega)
        (by rw [List.getD_eq_getElem?_getD, List.getElem?_drop, show x.1.p + (x.1.i - x.1.p) = x.1.i by omega]; simpa [List.getD] using h1)
        (fun j hj => by rw [List.getD_eq_getElem?_getD, List.getElem?_drop]; simpa [List.getD] using x5 (x.1.p + j) (by omega) (by omega))
      rw [List.drop_drop, show x.1.p + (x.1.i - x.1.p + 1) = x.1.i + 1 by omega] at hsp
      have hpc : List.drop x.1.p (List.take x.1.i a.s) = List.take (x.1.i - x.1.p) (a.s.drop x.1.p) := List.drop_take
      rw [grow_o, hpc]
      refine ⟨⟨⟨x.1.l ++ [List.take (x.1.i - x.1.p) (a.s.drop x.1.p)], x.1.i + 1, x.1.i + 1⟩, Nat.le_refl _, hlt, by show (x.1.l ++ [_]).length ≤ x.1.i + 1; simp; omega, ?_, fun j h1 h2 => absurd h2 (Nat.not_lt.2 h1)⟩, ?_, ⟨rfl, rfl, ⟨rfl, by simp, Nat.zero_le _⟩, rfl, rfl, trivial⟩, rfl, trivial⟩
      · show splitM (UInt8.ofNat a.c) a.s = (x.1.l ++ [List.take (x.1.i - x.1.p) (a.s.drop x.1.p)]) ++ splitM (UInt8.ofNat a.c) (a.s.drop (x.1.i + 1))
        rw [x4, hsp, List.append_assoc]; rfl
      · show a.s.length - (x.1.i + 1) < _; omega
    · have h1 := byte_isnt hc h1
      refine ⟨⟨⟨x.1.l, x.1.p, x.1.i + 1⟩, by show x.1.p ≤ x.1.i + 1; omega, hlt, x3, x4, fun j h2 h3 => ?_⟩, ?_, ⟨rfl, rfl, ⟨rfl, rfl, Nat.le_refl _⟩, rfl, rfl, trivial⟩, rfl, trivial⟩
      · have h3 : j < x.1.i + 1 := h3
        by_cases hj : j = x.1.i
        · rw [hj]; exact h1
        · exact x5 j h2 (by omega)
      · show a.s.length - (x.1.i + 1) < _; omega
  · have hi : x.1.i = a.s.length := by
      have : ¬ x.1.i < a.s.length := by simpa using hge
      omega
    have hsp := split_last (c := UInt8.ofNat a.c) (l := a.s.drop x.1.p)
        (fun j hj => by
          have hj : j < a.s.length - x.1.p := by simpa using hj
          rw [List.getD_eq_getElem?_getD, List.getElem?_drop]; simpa [List.getD] using x5 (x.1.p + j) (by omega) (by omega))
    have hcut : cutR (UInt8.ofNat a.c) a.s = x.1.l ++ (bif a.s.drop x.1.p == [] then [] else [a.s.drop x.1.p]) := by
      unfold cutR
      rw [x4, hsp, trimE_snoc]
    rw [hcut]
    refine br (fun hlt => ?_) (fun hge => ?_)
    · have hlt : x.1.p < a.s.length := by simpa using hlt
      have hne : (a.s.drop x.1.p == []) = false := by
        cases h : a.s.drop x.1.p with
        | nil => have := congrArg List.length h; simp at this; omega
        | cons y l => rfl
      rw [hne, cond_false, List.take_length, grow_d]
      refine brT (by simp; omega) (brT (beq_z _) (brT (grow_b (by decide) (by omega)) (brT (Nat.ble_eq_true_of_le (by simp)) ⟨rfl, trivial⟩)))
    · have hge : ¬ x.1.p < a.s.length := by simpa using hge
      have he : a.s.drop x.1.p = [] := List.drop_eq_nil_of_le (by omega)
      rw [he, whole_d]
      refine brT (ble_z _) ⟨?_, trivial⟩
      show d9 (x.1.l ++ []) = _
      rw [List.append_nil]
theorem k30 : SpecOk Tryd.prog 30 S30 := spec_loop e0_sound (by kernel_rfl) (fun _ => A30) L30 (fun _ => noJ) (fun _ => ()) ok30
theorem a30 : RowOK 30 (S30.con M30) := Spec.con_ok k30 M30 (fun _ => Nat.le_of_ble_eq_true rfl)
theorem K21_ok : ConOk Tryd.prog K21 := con_cons a30 con_nil
theorem e21_sound : HdSound Tryd.prog e21 := hdT_sound mixed hno K21_ok _ _ _
theorem ok31 (s : B) (hp : (SB sm s26).pre s = true) : Owes e21 31 (SB sm s26) A31 (L31 s) noJ () s := by
  refine Owes.mk ?_
  rw [v31]
  have hs := sm_le (s := s) hp
  have hl := cutR_le 32 s
  refine brT ?_ ?_
  · show (Nat.blt 32 256 && sm s) = true
    rw [Bool.and_eq_true]; exact ⟨rfl, hp⟩
  refine ⟨⟨⟨0, Nat.zero_le _⟩, ⟨rfl, ⟨rfl, rfl, Nat.le_refl _⟩, rfl, rfl, trivial⟩, rfl, trivial⟩, fun x => ?_⟩
  have hi := x.2
  have hk := keep_take_le (cutR 32 s) x.1
  have hks := fun h => keep_succ (xs := cutR 32 s) (j := x.1) h
  have e1 : ((x.1 : Int)).toNat = x.1 := by simp
  have w1 : IntKind.i64.wrap ((x.1 : Int) + 1) = ((x.1 + 1 : Nat) : Int) := by rw [wrap_id] <;> omega
  rw [e1, w1]
  refine br (fun hlt => ?_) (fun hge => ?_)
  · have hlt : x.1 < (cutR 32 s).length := by simpa using hlt
    have hks := hks hlt
    refine brT (by simp; omega) (br (fun h1 => ?_) (fun h1 => ?_))
    · have h1 : ((cutR 32 s).getD x.1 [] == []) = false := by simpa using h1
      rw [h1, cond_false] at hks
      refine brT (by simp; omega) (brT (beq_z _) (brT (grow_b (by decide) (Nat.le_trans hk (by omega))) ?_))
      refine ⟨⟨x.1 + 1, hlt⟩, ?_, ⟨rfl, ⟨rfl, ?_, Nat.zero_le _⟩, rfl, rfl, trivial⟩, ?_, trivial⟩
      · show (cutR 32 s).length - (x.1 + 1) < (cutR 32 s).length - x.1; omega
      · show (keep ((cutR 32 s).take (x.1 + 1))).length = _
        rw [hks]; simp
      · show o9 (keep ((cutR 32 s).take (x.1 + 1))) = _
        rw [hks, grow_o]
    · have h1 : ((cutR 32 s).getD x.1 [] == []) = true := by simpa using h1
      rw [h1, cond_true, List.append_nil] at hks
      refine ⟨⟨x.1 + 1, hlt⟩, ?_, ⟨rfl, ⟨rfl, ?_, Nat.le_refl _⟩, rfl, rfl, trivial⟩, ?_, trivial⟩
      · show (cutR 32 s).length - (x.1 + 1) < (cutR 32 s).length - x.1; omega
      · show (keep ((cutR 32 s).take (x.1 + 1))).length = _
        rw [hks]
      · show o9 (keep ((cutR 32 s).take (x.1 + 1))) = _
        rw [hks]
  · have hge : ¬ x.1 < (cutR 32 s).length := by simpa using hge
    have hw : wordsM s = keep (List.take x.1 (cutR 32 s)) := by
      rw [List.take_of_length_le (by omega)]
      exact (keep_trim _).symm
    refine brT (ble_z _) ⟨?_, trivial⟩
    rw [whole_d, hw]
theorem k31 : SpecOk Tryd.prog 31 (SB sm s26) := spec_loop e21_sound (by kernel_rfl) (fun _ => A31) L31 (fun _ => noJ) (fun _ => ()) ok31
theorem a31 : RowOK 31 ((SB sm s26).con (MB sm s26)) := Spec.con_ok k31 _ (fun _ => Nat.le_of_ble_eq_true rfl)
/-! ### number -/
theorem num_bad {s : B} (h : okNum s = false ∨ zeroLed s = true) : numM s = (0, false) := by
  unfold numM
  rcases h with h | h
  · rw [h]; rfl
  · rw [h]; cases okNum s <;> rfl
theorem val_bd {t : B} (h : allD t = true) (h7 : t.length ≤ 7) : 0 ≤ valM t ∧ valM t < 10000000 := by
  by_cases h0 : t.length = 0
  · have : t = [] := List.eq_nil_of_length_eq_zero h0
    subst this; decide
  · have hn : okNum t = true := by
      simp only [okNum, Bool.and_eq_true]
      exact ⟨⟨Nat.ble_eq_true_of_le (by omega), Nat.ble_eq_true_of_le h7⟩, h⟩
    have := val_bound (num_ok hn) t.length (Nat.le_refl _)
    rw [List.take_length] at this
    have := pow_le h7
    omega
theorem allD_succ {s : B} {i : Nat} (h : i < s.length) : allD (s.take (i + 1)) = (allD (s.take i) && isD (s.getD i 0)) := by
  unfold allD
  rw [take_snoc' 0 h, List.all_append]
  simp
theorem allD_not {s : B} {i : Nat} (h : i < s.length) (hd : isD (s.getD i 0) = false) : allD s = false := by
  cases ha : allD s with
  | false => rfl
  | true =>
    have := List.all_eq_true.1 ha (s.getD i 0) (by simp [List.getD, h])
    rw [hd] at this; cases this
theorem ok44 (s : B) (hp : (SB sm s47).pre s = true) : Owes e0 44 (SB sm s47) (fun _ => []) (L44 s) noJ () s := by
  refine Owes.mk ?_
  rw [v44]
  have hs := sm_le (s := s) hp
  have bad : ∀ {P : Prop}, (okNum s = false ∨ zeroLed s = true) → P → (((numM s).fst = 0 ∧ (numM s).snd = false ∧ True) ∧ True) := fun h _ => by
    rw [num_bad h]; exact ⟨⟨rfl, rfl, trivial⟩, trivial⟩
  refine br (fun h1 => bad (.inl ?_) trivial) (fun h1 => br (fun h7 => bad (.inl ?_) trivial) (fun h7 => ?_))
  · have h1 : (s.length : Int) < 1 := of_decide_eq_true h1
    unfold okNum
    have : Nat.ble 1 s.length = false := by
      cases h : Nat.ble 1 s.length with
      | false => rfl
      | true => have := Nat.le_of_ble_eq_true h; omega
    rw [this]; rfl
  · have h7 : (s.length : Int) > 7 := of_decide_eq_true h7
    unfold okNum
    have : Nat.ble s.length 7 = false := by
      cases h : Nat.ble s.length 7 with
      | false => rfl
      | true => have := Nat.le_of_ble_eq_true h; omega
    rw [this, Bool.and_false]; rfl
  have h1 : 1 ≤ s.length := by
    have : ¬ (s.length : Int) < 1 := of_decide_eq_false h1
    omega
  have h7 : s.length ≤ 7 := by
    have : ¬ (s.length : Int) > 7 := of_decide_eq_false h7
    omega
  refine brT (dT (by omega)) (br (fun h48 => br (fun h2 => bad (.inr ?_) trivial) (fun h2 => ?l1)) (fun h48 => ?l2))
  · unfold zeroLed
    have h48 := byte_is (c := 48) (by decide) h48
    have h2 : (s.length : Int) > 1 := of_decide_eq_true h2
    rw [dT (by omega : 1 < s.length), Bool.true_and]
    exact beq_iff_eq.2 h48
  case' l1 =>
    have hz : zeroLed s = false := by
      have h2 : ¬ (s.length : Int) > 1 := of_decide_eq_false h2
      unfold zeroLed
      rw [dF (by omega : ¬ 1 < s.length)]; rfl
  case' l2 =>
    have hz : zeroLed s = false := by
      have h48 := byte_isnt (c := 48) (by decide) h48
      unfold zeroLed
      have : (s.getD 0 0 == 48) = false := beq_eq_false_iff_ne.2 h48
      rw [this, Bool.and_false]
  all_goals
    refine ⟨⟨⟨0, Nat.zero_le _, h1, h7, hz, rfl⟩, ⟨rfl, rfl, rfl, trivial⟩, trivial⟩, fun x => ?_⟩
    have hi := x.2.1
    have had := x.2.2.2.2.2
    have hb := val_bd had (by simp; omega)
    have e1 : ((x.1 : Int)).toNat = x.1 := by simp
    have w1 : IntKind.i64.wrap ((x.1 : Int) + 1) = ((x.1 + 1 : Nat) : Int) := by rw [wrap_id] <;> omega
    rw [e1, w1]
    refine br (fun hlt => ?_) (fun hge => ?_)
    · have hlt : x.1 < s.length := by simpa using hlt
      have hds := allD_succ hlt
      have nd : isD (s.getD x.1 0) = false → okNum s = false := fun h => by
        unfold okNum; rw [allD_not hlt h, Bool.and_false]
      refine brT (dT (by omega)) (br (fun h8 => bad (.inl (nd ?_)) trivial) (fun h8 => brT (dT (by omega)) (br (fun h9 => bad (.inl (nd ?_)) trivial) (fun h9 => brT (dT (by omega)) ?_))))
      · have h8 : ((s.getD x.1 0).toNat : Int) < 48 := of_decide_eq_true h8
        unfold isD digI
        rw [dF (by omega)]; rfl
      · have h9 : ((s.getD x.1 0).toNat : Int) > 57 := of_decide_eq_true h9
        unfold isD digI
        rw [dF (by omega : ¬ ((s.getD x.1 0).toNat : Int) ≤ 57), Bool.and_false]
      · have h8 : ¬ ((s.getD x.1 0).toNat : Int) < 48 := of_decide_eq_false h8
        have h9 : ¬ ((s.getD x.1 0).toNat : Int) > 57 := of_decide_eq_false h9
        have hd : isD (s.getD x.1 0) = true := by
          unfold isD digI
          rw [dT (by omega), dT (by omega)]; rfl
        have wu : IntKind.u8.wrap (((s.getD x.1 0).toNat : Int) - 48) = ((s.getD x.1 0).toNat : Int) - 48 := by
          rw [IntWalk.u8_in _ (by omega)]
        refine ⟨⟨x.1 + 1, hlt, h1, h7, hz, by rw [hds, had, hd]; rfl⟩, ?_, ⟨rfl, ?_, rfl, trivial⟩, trivial⟩
        · show s.length - (x.1 + 1) < _; omega
        · show valM (s.take (x.1 + 1)) = IntKind.i64.wrap (IntKind.i64.wrap (valM (List.take x.1 s) * 10) + IntKind.i64.wrap (IntKind.u8.wrap (((s.getD x.1 0).toNat : Int) - 48)))
          rw [wu, val_succ hlt, wrap_id (n := valM _ * 10) (by omega) (by omega), wrap_id (n := ((s.getD x.1 0).toNat : Int) - 48) (by omega) (by omega), wrap_id (by omega) (by omega)]
    · have hge : s.length ≤ x.1 := by simpa using hge
      rw [List.take_of_length_le hge] at had ⊢
      have hn : numM s = (valM s, true) := by
        unfold numM
        have : okNum s = true := by
          simp only [okNum, Bool.and_eq_true]
          exact ⟨⟨Nat.ble_eq_true_of_le h1, Nat.ble_eq_true_of_le h7⟩, had⟩
        rw [this, hz]; rfl
      rw [hn]
      exact ⟨⟨rfl, rfl, trivial⟩, trivial⟩
theorem k44 : SpecOk Tryd.prog 44 (SB sm s47) := spec_loop e0_sound (by kernel_rfl) (fun _ _ => []) L44 (fun _ => noJ) (fun _ => ()) ok44
theorem a44 : RowOK 44 ((SB sm s47).con (MB sm s47)) := Spec.con_ok k44 _ (fun _ => Nat.le_of_ble_eq_true rfl)
theorem K22_ok : ConOk Tryd.prog K22 := con_cons a44 con_nil
theorem e22_sound : HdSound Tryd.prog e22 := hdT_sound mixed hno K22_ok _ _ _
/-! ### share -/
theorem idx_at {c : UInt8} : ∀ {s : B} {m : Nat}, m < s.length → s.getD m 0 = c → (∀ j, j < m → s.getD j 0 ≠ c) → Lib.indexByte s c = m
  | [], m, h, _, _ => by simp at h
  | x :: l, 0, _, h, _ => by
    have h : x = c := by simpa using h
    unfold Lib.indexByte
    rw [beq_iff_eq.2 h]; rfl
  | x :: l, m + 1, h1, h2, h3 => by
    have hx : (x == c) = false := beq_eq_false_iff_ne.2 (by simpa using h3 0 (by omega))
    have ih := idx_at (s := l) (m := m) (by simpa using h1) (by simpa using h2) (fun j hj => by simpa using h3 (j + 1) (by omega))
    unfold Lib.indexByte
    rw [hx]
    simp only [Bool.false_eq_true, if_false]
    rw [ih, if_neg (by simp)]
    rfl
theorem idx_no {c : UInt8} : ∀ {s : B}, (∀ j, j < s.length → s.getD j 0 ≠ c) → Lib.indexByte s c = -1
  | [], _ => rfl
  | x :: l, h => by
    have hx : (x == c) = false := beq_eq_false_iff_ne.2 (by simpa using h 0 (by simp))
    have ih := idx_no (s := l) (fun j hj => by simpa using h (j + 1) (by simpa using hj))
    unfold Lib.indexByte
    rw [hx]
    simp only [Bool.false_eq_true, if_false]
    rw [ih]; rfl
theorem ok45 (s : B) (hp : (SB sm s45).pre s = true) : Owes e22 45 (SB sm s45) (fun _ => []) (L45 s) noJ () s := by
  refine Owes.mk ?_
  rw [v45]
  have hs := sm_le (s := s) hp
  refine ⟨⟨⟨0, Nat.zero_le _, fun j h => absurd h (Nat.not_lt_zero _)⟩, ⟨rfl, ⟨rfl, rfl⟩, rfl, trivial⟩, ⟨⟨rfl, rfl, trivial⟩, trivial⟩, trivial⟩, fun x => ?_⟩
  have hi := x.2.1
  have hno := x.2.2
  have e1 : ((x.1 : Int)).toNat = x.1 := by simp
  have e3 : ((s.length : Int)).toNat = s.length := by simp
  have w1 : IntKind.i64.wrap ((x.1 : Int) + 1) = ((x.1 + 1 : Nat) : Int) := by rw [wrap_id] <;> omega
  have e2 : (((x.1 + 1 : Nat) : Int)).toNat = x.1 + 1 := by simp
  rw [e1, w1, e2, e3, List.take_length, List.drop_zero]
  refine br (fun hlt => ?_) (fun hge => ?_)
  · have hlt : x.1 < s.length := by simpa using hlt
    refine brT (dT (by omega)) (br (fun h1 => ?_) (fun h1 => ?_))
    · refine ⟨⟨x.1 + 1, hlt, fun j hj => ?_⟩, ?_, ⟨rfl, ⟨rfl, rfl⟩, rfl, trivial⟩, ⟨⟨rfl, rfl, trivial⟩, trivial⟩, trivial⟩
      · by_cases h : j = x.1
        · subst h
          refine byte_isnt (c := 47) (by decide) ?_
          simpa [bne] using h1
        · exact hno j (by omega)
      · show s.length - (x.1 + 1) < _; omega
    · have h1 : s.getD x.1 0 = 47 := byte_is (c := 47) (by decide) (by simpa [bne] using h1)
      have hc := cut_some (idx_at hlt h1 hno)
      have hsh : shareR s = shareM s := by unfold shareR; rw [hc]; rfl
      have hm : shareM s = (⟨(numM (s.take x.1)).1, (numM (s.drop (x.1 + 1))).1⟩, true && (numM (s.take x.1)).2 && (numM (s.drop (x.1 + 1))).2) := by
        unfold shareM; rw [hc]
      rw [hsh, hm]
      refine brF (bF (by omega)) (brT (dT (by omega)) (brT ?_ (brT (by simp; omega) (brT ?_ (br (fun h => ?_) (fun h => ?_))))))
      · exact Nat.ble_eq_true_of_le (by simp; omega)
      · exact Nat.ble_eq_true_of_le (by simp; omega)
      · rw [h]; exact ⟨⟨⟨rfl, rfl, trivial⟩, rfl, trivial⟩, trivial⟩
      · rw [h]; exact ⟨⟨⟨rfl, rfl, trivial⟩, rfl, trivial⟩, trivial⟩
  · have hx : x.1 = s.length := by
      have : ¬ x.1 < s.length := by simpa using hge
      omega
    have hsh : shareR s = (⟨0, 0⟩, false) := by
      unfold shareR
      rw [cut_none (idx_no (fun j hj => hno j (by omega)))]; rfl
    rw [hsh]
    exact brT (by rw [hx]; exact beq_self_eq_true _) ⟨⟨⟨rfl, rfl, trivial⟩, rfl, trivial⟩, trivial⟩
theorem k45 : SpecOk Tryd.prog 45 (SB sm s45) := spec_loop e22_sound (by kernel_rfl) (fun _ _ => []) L45 (fun _ => noJ) (fun _ => ()) ok45
theorem a45 : RowOK 45 ((SB sm s45).con (MB sm s45)) := Spec.con_ok k45 _ (fun _ => Nat.le_of_ble_eq_true rfl)
theorem K23_ok : ConOk Tryd.prog K23 := con_cons a44 (con_cons a45 con_nil)
theorem e23_sound : HdSound Tryd.prog e23 := hdT_sound mixed hno K23_ok _ _ _
/-! ### queue -/
theorem capsR_step {w : List B} {i : Nat} (h : i < w.length) : capsR true (w.drop i) = ((shareR (w.getD i [])).1 :: (capsR (shareR (w.getD i [])).2 (w.drop (i + 1))).1, (capsR (shareR (w.getD i [])).2 (w.drop (i + 1))).2) := by
  have : w.drop i = w.getD i [] :: w.drop (i + 1) := by
    rw [List.drop_eq_getElem_cons h]; simp [List.getD, h]
  rw [this]; rfl
theorem capsR_false (l : List B) : capsR false l = ([], false) := by cases l <;> rfl
theorem capsR_nil (b : Bool) : capsR b [] = ([], b) := by cases b <;> rfl
theorem queueR_yes {w : List B} {n : Int} (h1 : (w.length : Int) = 3 + n) (h2 : (w.getD 0 [] == wQueue) = true) : queueR w n = (⟨w.getD 1 [], (capsR (numM (w.getD 2 [])).2 (w.drop 3)).1, (numM (w.getD 2 [])).1⟩, (capsR (numM (w.getD 2 [])).2 (w.drop 3)).2) := by
  unfold queueR; rw [dT h1, h2]; rfl
theorem ok32 (a : AW) (hp : S32.pre a = true) : Owes e23 32 S32 A32 (L32 a) noJ () a := by
  refine Owes.mk ?_
  rw [v32]
  have hp : AW.fine a = true := hp
  simp only [AW.fine, Bool.and_eq_true] at hp
  have hw := small_le hp.1.1.1
  have hn0 : 0 ≤ a.n := of_decide_eq_true hp.1.1.2
  have hn1 : a.n ≤ 1000000 := of_decide_eq_true hp.1.2
  have hsm : ∀ x ∈ a.w, sm x = true := fun x hx => List.all_eq_true.1 hp.2 x hx
  have w3 : IntKind.i64.wrap ((3 : Int) + a.n) = 3 + a.n := by rw [wrap_id] <;> omega
  rw [w3]
  refine br (fun hne => ?_) (fun he => ?_)
  · have hne : ¬ (a.w.length : Int) = 3 + a.n := by simpa [bne] using hne
    have : queueR a.w a.n = (⟨[], [], 0⟩, false) := by unfold queueR; rw [dF hne]; rfl
    rw [this]; exact ⟨⟨⟨rfl, rfl, rfl, trivial⟩, rfl, trivial⟩, trivial⟩
  have he : (a.w.length : Int) = 3 + a.n := by simpa [bne] using he
  refine brT (by simp; omega) (br (fun hq => ?_) (fun hq => ?_))
  · have hq : (a.w.getD 0 [] == wQueue) = false := by
      have : (!(a.w.getD 0 [] == wQueue)) = true := hq
      simpa using this
    have : queueR a.w a.n = (⟨[], [], 0⟩, false) := by unfold queueR; rw [hq, Bool.and_false]; rfl
    rw [this]; exact ⟨⟨⟨rfl, rfl, rfl, trivial⟩, rfl, trivial⟩, trivial⟩
  have hq : (a.w.getD 0 [] == wQueue) = true := by
    have : (!(a.w.getD 0 [] == wQueue)) = false := hq
    simpa using this
  rw [queueR_yes he hq]
  refine brT (by simp; omega) (brT (hsm _ (getD_mem (by omega))) (brT (by simp; omega) ?_))
  refine ⟨⟨⟨⟨3, [], (numM (a.w.getD 2 [])).2⟩, Nat.le_refl _, by show 3 ≤ a.w.length; omega, Nat.zero_le _, he, hq, rfl⟩, ⟨rfl, ⟨rfl, rfl⟩, rfl, ⟨rfl, rfl⟩, rfl, trivial⟩, ⟨⟨rfl, rfl, rfl, trivial⟩, trivial⟩, ⟨⟨rfl, ⟨rfl, rfl, Nat.le_refl _⟩, rfl, trivial⟩, trivial⟩, rfl, trivial⟩, fun x => ?_⟩
  have hx := x.2
  have x1 := hx.lo
  have x2 := hx.hi
  have x3 := hx.l
  have x4 := hx.go
  have e1 : ((x.1.i : Int)).toNat = x.1.i := by simp
  have w1 : IntKind.i64.wrap ((x.1.i : Int) + 1) = ((x.1.i + 1 : Nat) : Int) := by rw [wrap_id] <;> omega
  rw [e1, w1]
  have b1 : (Nat.ble (0 + x.1.cs.length) x.1.cs.length && true && true) = true := by
    rw [Bool.and_true, Bool.and_true]; exact ble_z _
  have fin : capsR x.1.ok (a.w.drop x.1.i) = ([], x.1.ok) → (((a.w.getD 1 [] = a.w.getD 1 [] ∧ d48 (capsR (numM (a.w.getD 2 [])).2 (a.w.drop 3)).1 = d48 (List.drop 0 (List.take (0 + x.1.cs.length) x.1.cs)) ∧ (numM (a.w.getD 2 [])).1 = (numM (a.w.getD 2 [])).1 ∧ True) ∧ (capsR (numM (a.w.getD 2 [])).2 (a.w.drop 3)).2 = x.1.ok ∧ True) ∧ True) := fun h => by
    rw [x4, h, whole_d]
    refine ⟨⟨⟨rfl, ?_, rfl, trivial⟩, rfl, trivial⟩, trivial⟩
    show d48 (x.1.cs ++ []) = _
    rw [List.append_nil]
  refine br (fun hlt => ?_) (fun hge => ?_)
  · have hlt : x.1.i < a.w.length := by simpa using hlt
    refine br (fun ho => ?_) (fun ho => ?_)
    · refine brT (by simp; omega) (brT (hsm _ (getD_mem hlt)) (brT (beq_z _) (brT (grow_b (by decide) (by omega)) ?_)))
      have hst := capsR_step hlt
      rw [ho, hst] at x4
      refine ⟨⟨⟨x.1.i + 1, x.1.cs ++ [(shareR (a.w.getD x.1.i [])).1], (shareR (a.w.getD x.1.i [])).2⟩, by show 3 ≤ x.1.i + 1; omega, hlt, by show (x.1.cs ++ [_]).length ≤ x.1.i + 1; simp; omega, he, hq, ?_⟩, ?_, ⟨rfl, ⟨rfl, rfl⟩, rfl, ⟨rfl, rfl⟩, rfl, trivial⟩, ⟨⟨rfl, rfl, rfl, trivial⟩, trivial⟩, ⟨⟨rfl, ⟨rfl, by simp, Nat.zero_le _⟩, rfl, trivial⟩, trivial⟩, ?_, trivial⟩
      · rw [x4]; simp
      · show a.w.length - (x.1.i + 1) < _; omega
      · rw [grow_o]
    · have ho : x.1.ok = false := ho
      exact brT b1 (brT b1 (brT b1 (fin (by rw [ho]; exact capsR_false _))))
  · have hge : ¬ x.1.i < a.w.length := by simpa using hge
    exact brT b1 (brT b1 (brT b1 (fin (by rw [List.drop_eq_nil_of_le (by omega)]; exact capsR_nil _))))
theorem k32 : SpecOk Tryd.prog 32 S32 := spec_loop e23_sound (by kernel_rfl) (fun _ => A32) L32 (fun _ => noJ) (fun _ => ()) ok32
theorem a32 : RowOK 32 (S32.con M32) := Spec.con_ok k32 M32 (fun _ => Nat.le_of_ble_eq_true rfl)
end Go.Proofs.YtaonjbojhikndaaDoor

namespace Go.Proofs.YtaonjbojhikndaaDoor
open Go Go.W
set_option maxRecDepth 100000
def K24 : Con regK.T := fun f => lookN [(30, S30.con M30), (31, (SB sm s26).con (MB sm s26)), (32, S32.con M32)] f
theorem K24_ok : ConOk Tryd.prog K24 := con_cons a30 (con_cons a31 (con_cons a32 con_nil))
noncomputable def e24 : Hd regK.T := hdT regK Tryd.prog K24 (fun _ => false) 1000 5
theorem e24_sound : HdSound Tryd.prog e24 := hdT_sound mixed hno K24_ok _ _ _
def linesR (s : B) : List B := cutR 10 s
structure G18 where
  i : Nat
  r : Rd
  qs : List Qu
  tw : Bool
structure V18 (s : B) (x : G18) : Prop where
  i : x.i ≤ (linesR s).length
  l : x.r.labels.length ≤ 3
  q : x.r.qs.length ≤ 16
  seen : x.r.seen = !(x.r.labels == [])
  kept : Kept x.qs x.r.qs x.tw
  go : runM x.r ((linesR s).drop x.i) = runM rd0 (linesR s)
def lineQ (s : B) (g : G18) : Qu := (queueR (wordsM ((linesR s).getD g.i [])) (g.r.labels.length : Nat)).1
def L18 (s : B) (g : G18) (k : Nat) (_ : St regK.T) : Option (LoopI regK.T G18) := match Nat.beq k 7 with
  | true => some ⟨{ x : G18 // V18 s x }, fun x => ⟨[(2, .ptr 0 0 0), (4, .ptr 1 0 0), (5, kb x.1.tw), (6, .d (.sl 9 (linesR s))), (7, ki (x.1.i : Nat))],
      [(0, noRow), (1, .rows 2 [[.d (.sl 9 x.1.r.labels), .d (.sl 46 x.1.qs)]])], 2⟩, fun x => (linesR s).length - x.1.i, fun x => x.1⟩
  | false => (match Nat.beq k 23 with
    | true => some ⟨{ k : Nat // k ≤ g.qs.length ∧ ∀ j, j < k → ltQ (g.qs.getD j qd) (lineQ s g) = true }, fun k => ⟨[(2, .ptr 0 0 0), (4, .ptr 1 0 0), (5, kb g.tw), (6, .d (.sl 9 (linesR s))), (7, ki (g.i : Nat)), (9, .ptr 2 0 0), (11, ki (k.1 : Nat))],
      [(0, noRow), (1, .rows 2 [[.d (.sl 9 g.r.labels), .d (.sl 46 g.qs)]]), (2, .rows 3 [[ks (lineQ s g).path, .d (.sl 48 (lineQ s g).caps), ki (lineQ s g).user]])], 3⟩, fun k => g.qs.length - k.1, fun _ => g⟩
    | false => none)
def wOf (s : B) (g : G18) : List B := wordsM ((linesR s).getD g.i [])
structure OkL (s : B) (g : G18) : Prop where
  w : (wOf s g).length ≠ 0
  l : g.r.labels.length ≠ 0
  m : ¬ (g.qs.length = 16 ∧ ((wOf s g).getD 0 [] == wQueue) = true)
def J18 (s : B) (g : G18) (k : Nat) : Option (LoopI regK.T G18) := match Nat.beq k 19 with
  | true => some ⟨{ _u : Nat // OkL s g }, fun _ => ⟨[(2, .ptr 0 0 0), (4, .ptr 1 0 0), (5, kb g.tw), (6, .d (.sl 9 (linesR s))), (7, ki (g.i : Nat)), (8, .d (.sl 9 (wOf s g)))],
      [(0, noRow), (1, .rows 2 [[.d (.sl 9 g.r.labels), .d (.sl 46 g.qs)]])], 2⟩, fun _ => 0, fun _ => g⟩
  | false => (match Nat.beq k 25 with
  | true => some ⟨{ k : Nat // k ≤ g.qs.length ∧ (∀ j, j < k → ltQ (g.qs.getD j qd) (lineQ s g) = true) ∧ (k < g.qs.length → ltQ (g.qs.getD k qd) (lineQ s g) = false) }, fun k => ⟨[(2, .ptr 0 0 0), (4, .ptr 1 0 0), (5, kb g.tw), (6, .d (.sl 9 (linesR s))), (7, ki (g.i : Nat)), (9, .ptr 2 0 0), (11, ki (k.1 : Nat))],
      [(0, noRow), (1, .rows 2 [[.d (.sl 9 g.r.labels), .d (.sl 46 g.qs)]]), (2, .rows 3 [[ks (lineQ s g).path, .d (.sl 48 (lineQ s g).caps), ki (lineQ s g).user]])], 3⟩, fun _ => 0, fun _ => g⟩
  | false => (match Nat.beq k 26 with
    | true => some ⟨{ k : Nat // k ≤ g.qs.length ∧ insF g.qs (lineQ s g) = g.qs.take k ++ lineQ s g :: g.qs.drop k }, fun k => ⟨[(2, .ptr 0 0 0), (4, .ptr 1 0 0), (5, kb (g.tw || isF g.qs (lineQ s g))), (6, .d (.sl 9 (linesR s))), (7, ki (g.i : Nat)), (9, .ptr 2 0 0), (11, ki (k.1 : Nat))],
      [(0, noRow), (1, .rows 2 [[.d (.sl 9 g.r.labels), .d (.sl 46 g.qs)]]), (2, .rows 3 [[ks (lineQ s g).path, .d (.sl 48 (lineQ s g).caps), ki (lineQ s g).user]])], 3⟩, fun _ => 0, fun _ => g⟩
    | false => (match Nat.beq k 27 with
      | true => some ⟨{ k : Nat // k ≤ g.qs.length ∧ insF g.qs (lineQ s g) = g.qs.take k ++ lineQ s g :: g.qs.drop k }, fun k => ⟨[(2, .ptr 0 0 0), (4, .ptr 1 0 0), (5, kb (g.tw || isF g.qs (lineQ s g))), (6, .d (.sl 9 (linesR s))), (7, ki (g.i : Nat)), (9, .ptr 2 0 0), (11, ki (k.1 : Nat)), (12, .sl 3 0 k.1 (.least 0))],
        [(0, noRow), (1, .rows 2 [[.d (.sl 9 g.r.labels), .d (.sl 46 g.qs)]]), (2, .rows 3 [[ks (lineQ s g).path, .d (.sl 48 (lineQ s g).caps), ki (lineQ s g).user]]), (3, .trows 46 (g.qs.take k.1))], 4⟩, fun _ => 0, fun _ => g⟩
      | false => none)))
def A18 (k : Nat) : List Tgt := (lookN [(16, [.fcell 1 0 0]), (27, [.fcell 1 0 1])] k).getD []
def g18 : G18 := ⟨0, rd0, [], false⟩
def s17 (s : B) : QO := .ret (.tup [.agg [.d (.sl 9 (parseM s).labels), .d (.sl 46 (parseM s).qs)], ki (parseM s).err], [])
/-! ### Same -/
def allI (p : Nat → Bool) : Nat → Bool
  | 0 => true
  | n + 1 => allI p n && p n
def cd : Cp := ⟨0, 0⟩
def sameC (x y : Cp) : Bool := (x.least == y.least) && (x.most == y.most)
def sameQ (x y : Qu) : Bool := (x.path == y.path) && ((x.user == y.user) && (decide (x.caps.length = y.caps.length) && allI (fun k => sameC (x.caps.getD k cd) (y.caps.getD k cd)) x.caps.length))
structure ASm where
  la : List B
  qa : List Qu
  lb : List B
  qb : List Qu
def ASm.fine (a : ASm) : Bool := small a.la.length && small a.qa.length && a.qa.all fun q => small q.caps.length
def ASm.lp (a : ASm) (i : Nat) : Bool := a.la.getD i [] == a.lb.getD i []
def ASm.qp (a : ASm) (i : Nat) : Bool := sameQ (a.qa.getD i qd) (a.qb.getD i qd)
def sameM (a : ASm) : Bool := decide (a.la.length = a.lb.length) && (decide (a.qa.length = a.qb.length) && (allI a.lp a.la.length && allI a.qp a.qa.length))
def S19 : Go.W.Spec regK.T := ⟨ASm, fun a => [.agg [.d (.sl 9 a.la), .d (.sl 46 a.qa)], .agg [.d (.sl 9 a.lb), .d (.sl 46 a.qb)]], fun _ => [], ASm.fine, fun a => .ret (kb (sameM a), [])⟩
def qD : D TK → Option (List Qu)
  | .sl 46 xs => some xs
  | .nils => some []
  | _ => none
theorem qD_cov {x : D TK} {xs : List Qu} (h : qD x = some xs) : covD (.sl 46 xs) x := by
  unfold qD at h; split at h
  · cases h; exact rfl
  · cases h; exact rfl
  · cases h
def M19 : Meet S19 where
  find args _ := match args with
    | [.agg [.d l1, .d q1], .agg [.d l2, .d q2]] => (match lD l1, qD q1, lD l2, qD q2 with
      | some a, some b, some c, some d => some (⟨a, b, c, d⟩, [])
      | _, _, _, _ => none)
    | _ => none
  ok args g a ρ h := by
    split at h
    · split at h
      · rename_i h1 h2 h3 h4
        cases h
        exact ⟨⟨⟨lD_cov h1, qD_cov h2, trivial⟩, ⟨lD_cov h3, qD_cov h4, trivial⟩, trivial⟩, rfl, fun j o' hj => by simp [S19] at hj⟩
      · cases h
    · cases h
structure G19 where
  i : Nat
structure P19 (a : ASm) : Prop where
  l : a.la.length = a.lb.length
  q : a.qa.length = a.qb.length
def rowC (l : List B) (q : List Qu) : OK := .rows 2 [[.d (.sl 9 l), .d (.sl 46 q)]]
def rowQ (q : Qu) : OK := .rows 3 [[ks q.path, .d (.sl 48 q.caps), ki q.user]]
def L19 (a : ASm) (g : G19) (k : Nat) (_ : St regK.T) : Option (LoopI regK.T G19) := match Nat.beq k 4 with
  | true => some ⟨{ i : Nat // i ≤ a.la.length ∧ allI a.lp i = true ∧ P19 a }, fun i => ⟨[(2, .ptr 0 0 0), (3, .ptr 1 0 0), (5, ki (i.1 : Nat))], [(0, .rows 2 [[.d (.sl 9 a.la), .d (.sl 46 a.qa)]]), (1, .rows 2 [[.d (.sl 9 a.lb), .d (.sl 46 a.qb)]])], 2⟩, fun i => a.la.length - i.1, fun i => ⟨i.1⟩⟩
  | false => (match Nat.beq k 9 with
    | true => some ⟨{ i : Nat // i ≤ a.qa.length ∧ allI a.qp i = true ∧ allI a.lp a.la.length = true ∧ P19 a }, fun i => ⟨[(2, .ptr 0 0 0), (3, .ptr 1 0 0), (6, ki (i.1 : Nat))], [(0, .rows 2 [[.d (.sl 9 a.la), .d (.sl 46 a.qa)]]), (1, .rows 2 [[.d (.sl 9 a.lb), .d (.sl 46 a.qb)]])], 2⟩, fun i => a.qa.length - i.1, fun i => ⟨i.1⟩⟩
    | false => (match Nat.beq k 15 with
      | true => some ⟨{ k : Nat // k ≤ (a.qa.getD g.i qd).caps.length ∧ allI (fun k => sameC ((a.qa.getD g.i qd).caps.getD k cd) ((a.qb.getD g.i qd).caps.getD k cd)) k = true }, fun k => ⟨[(2, .ptr 0 0 0), (3, .ptr 1 0 0), (6, ki (g.i : Nat)), (7, .ptr 2 0 0), (8, .ptr 3 0 0), (9, ki (k.1 : Nat))],
          [(0, .rows 2 [[.d (.sl 9 a.la), .d (.sl 46 a.qa)]]), (1, .rows 2 [[.d (.sl 9 a.lb), .d (.sl 46 a.qb)]]), (2, .rows 3 [[ks (a.qa.getD g.i qd).path, .d (.sl 48 (a.qa.getD g.i qd).caps), ki (a.qa.getD g.i qd).user]]), (3, .rows 3 [[ks (a.qb.getD g.i qd).path, .d (.sl 48 (a.qb.getD g.i qd).caps), ki (a.qb.getD g.i qd).user]])], 4⟩, fun k => (a.qa.getD g.i qd).caps.length - k.1, fun _ => g⟩
      | false => none))
end Go.Proofs.YtaonjbojhikndaaDoor
