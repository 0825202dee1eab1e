/- Part of the proof: texts Qr1. No conditions. -/
import Derived.Test.YtclpnndkhbnaoaaGreatDoorQh
import Derived.Test.YtclpnndkhbnaoaaGreatDoorTie
import Derived.Test.YtclpnndkhbnaoaaGreatDoorCards
import Derived.ProofKit
import Derived.OpenShut
import Derived.LaidMore
import Derived.Lay
import Derived.SevenTiedAt
import Derived.Stop.Joined
import Derived.JoinedOf
set_option linter.all false
namespace Go.Proofs.YtclpnndkhbnaoaaGreatDoor
open Go Go.W Go.Proofs Go.ChangeShapes Go.WideShapes Go.ChangeAt Go.RowKit
set_option maxRecDepth 100000
theorem qNU(P:Program)(still:(P.funcs.toList.all fun fn=>!fn.goes)=true)(c:OpenClaim)(hc:c.start=.entering):false=c.goesBy P:=by
 have h1:∀fn∈P.funcs.toList,fn.goes=false:=fun fn h=>by simpa using ek.1 still fn h
 have h2:∀g:FuncId,((P.funcs[g]?).any Func.goes)=false:=fun g=>by
  cases hg:P.funcs[g]? with
  | none=>rfl
  | some fn=>exact h1 fn (by rw[qh];exact qd hg)
 have h3:P.funcs.any Func.goes=false:=by
  rw[←Bool.not_eq_true,Array.any_eq_true']
  rintro⟨fn,hm,hg⟩
  rw[h1 fn (by rw[qh];exact hm)] at hg
  cases hg
 have h4:∀f:FuncId,P.goes f=false:=fun f=>by
  unfold Program.goes
  rw[h3,Bool.and_false,Bool.or_false,←Bool.not_eq_true,List.any_eq_true]
  rintro⟨g,_,hg⟩
  rw[h2 g] at hg;cases hg
 unfold OpenClaim.goesBy Program.goesAt Program.goesFrom
 rw[hc]
 simp only[Bool.or_false]
 cases P.funcNamed c.func with
 | none=>rfl
 | some f=>exact(h4 f).symm
theorem still:(Tryz.prog.funcs.toList.all fun fn=>!fn.goes)=true:=by kernel_rfl
theorem qTq:(Rows.managerAskedRow.inPlace==Tryz.prog.inPlace 3)=true:=by kernel_rfl
theorem qTr:(Rows.managerAskedRow.unfollowed==Tryz.prog.unfollowed 3)=true:=by kernel_rfl
theorem qTs:(Rows.managerAskedRow.recurses==Tryz.prog.recurses 3)=true:=by kernel_rfl
theorem qTt:(Rows.managerAskedRow.named==Tryz.prog.varsNamed 3)=true:=by kernel_rfl
theorem qNV:joinedFacts Tryz.prog 3 Tryz.f3 Rows.managerAskedSpec Rows.managerAskedRow=true:=by
 unfold joinedFacts
 rw[qTq,qTr,qTs,qTt]
 kernel_rfl
end Go.Proofs.YtclpnndkhbnaoaaGreatDoor
