/- Part of the proof: texts Ph1 Ph2. No conditions. -/
import Derived.Test.YtlmkakccmpncjaaGreatDoorPf
import Derived.Test.YtlmkakccmpncjaaGreatDoorCards
import Derived.Test.YtlmkakccmpncjaaGreatDoorTi6
import Derived.ProofKit
import Derived.OpenShut
import Derived.LaidMore
import Derived.Lay
import Derived.SevenTiedAt
import Derived.Stop.Joined
import Derived.JoinedOf
set_option linter.all false
namespace Go.Proofs.YtlmkakccmpncjaaGreatDoor
open Go Go.W Go.Proofs Go.ChangeShapes Go.WideShapes Go.ChangeAt Go.RowKit
set_option maxRecDepth 100000
theorem zLe(P:Program)(still:(P.funcs.toList.all fun fn=>!fn.goes)=true)(c:OpenClaim)(hc:c.start=.entering):false=c.goesBy P:=by
 have h1:∀fn∈P.funcs.toList,fn.goes=false:=fun fn h=>by simpa using fw.1 still fn h
 have h2:∀g:FuncId,((P.funcs[g]?).any Func.goes)=false:=fun g=>by
  cases hg:P.funcs[g]? with
  | none=>rfl
  | some fn=>exact h1 fn (by rw[vg];exact uq hg)
 have h3:P.funcs.any Func.goes=false:=by
  rw[←Bool.not_eq_true,Array.any_eq_true']
  rintro⟨fn,hm,hg⟩
  rw[h1 fn (by rw[vg];exact hm)] at hg
  cases hg
 have h4:∀f:FuncId,P.goes f=false:=fun f=>by
  unfold Program.goes
  rw[h3,Bool.and_false,oq,←Bool.not_eq_true,qh]
  rintro⟨g,_,hg⟩
  rw[h2 g] at hg;cases hg
 unfold OpenClaim.goesBy Program.goesAt Program.goesFrom
 rw[hc]
 simp only[oq]
 cases P.funcNamed c.func with
 | none=>rfl
 | some f=>exact(h4 f).symm
theorem still:(Tryz.prog.funcs.toList.all fun fn=>!fn.goes)=true:=by kernel_rfl
theorem zQy:(Rows.managerGivesRow.inPlace==Tryz.prog.inPlace 3)=true:=by kernel_rfl
theorem zQz:(Rows.managerGivesRow.unfollowed==Tryz.prog.unfollowed 3)=true:=by kernel_rfl
theorem zQ0:(Rows.managerGivesRow.recurses==Tryz.prog.recurses 3)=true:=by kernel_rfl
theorem zQ1:(Rows.managerGivesRow.named==Tryz.prog.varsNamed 3)=true:=by kernel_rfl
theorem zLf:joinedFacts Tryz.prog 3 Tryz.f3 Rows.managerGivesSpec Rows.managerGivesRow=true:=by
 unfold joinedFacts
 rw[zQy,zQz,zQ0,zQ1]
 kernel_rfl
theorem zI2(os:Os)(started:os.Started)(H:Type)(enc:TypeId×Value→H) :
  ReturnsInHanded {} Tryz.checked os 3 .any (fun w args=>(Rows.managerGivesSpec.pre enc Tryz.prog Tryz.f3 Rows.managerGivesRow.domain false w args∧laidMetH Tryz.prog Rows.managerGivesRow.laid w)∧sizedMet enc Tryz.prog Tryz.f3 (OpenSpec.ofChange Rows.managerGivesSpec) false w args)
   (Rows.managerGivesSpec.post enc Tryz.prog Tryz.f3 false true false false):=by
 have hp:Tryz.f3.params.toList=[25,3,22,22]:=by kernel_rfl
 refine qUN (C:=Tryz.checked) (X:=fun w _=>laidMetH Tryz.prog Rows.managerGivesRow.laid w) (fun _ _ _ hh h=>h.of_heap hh) (bt:=4) (reg:=aC) zQv started zIz (by kernel_rfl) Tryz.func3 ?_ (by kernel_rfl) (by kernel_rfl) rfl ?_
  (ChangeSpec.witness_shaped (enc:=enc) (C:=Tryz.checked) (os:=os) (X:=fun w _=>laidMetH Tryz.prog Rows.managerGivesRow.laid w) false (World.laidAll Tryz.prog os Rows.managerGivesRow.laid) #[.agg #[.int .i64 0,.slice none 0 0,.slice none 0 0],.int .i64 0,.slice none 0 0,.slice none 0 0] 8 (World.laidAll_os _ _ _)
   (World.shaped_of_ZipB (by kernel_rfl) (by kernel_rfl)) (by kernel_rfl) (by kernel_rfl) (by kernel_rfl)
   (by rw[MakeChecks.laidMetH_plain _ _ _ (by kernel_rfl)];exact laidMet_laidAll _ (by kernel_rfl) (by kernel_rfl)))
  8 ?_ zQw (fun _ _ _=>trivial) ?_
 ·rw[hp]
  exact of_decide_eq_true (by kernel_rfl)
 ·intro ds hd
  have hd:ds.length=4:=hd
  match ds,hd with
  | [d0,d1,d2,d3],_=>rfl
 ·rw[hp]
  exact of_decide_eq_true (by kernel_rfl)
 ·intro vs h
  rw[hp] at h
  obtain⟨x0,r0,rfl,h0,x1,r1,rfl,h1,x2,r2,rfl,h2,x3,r3,rfl,h3,rfl⟩:=h
  obtain⟨a0,q0⟩:=zOh h0
  obtain⟨a1,q1⟩:=zQx h1
  obtain⟨a2,q2⟩:=zPN h2
  obtain⟨a3,q3⟩:=zPN h3
  rw[show Tryz.checked.prog=Tryz.prog from rfl,q0,q1,q2,q3]
  exact zCJ a0 a1 a2 a3
theorem qGF:Rows.ManagerGivesSaid :=
 OpenClaim.holds_of_wide 3 Tryz.f3 rfl rfl rfl rfl rfl rfl rfl ⟨rfl,rfl,rfl,rfl,rfl⟩ rfl rfl rfl rfl rfl (by kernel_rfl) Tryz.func3 zLf (of_decide_eq_true (by kernel_rfl))
  (by unfold Func.isWrapper;rw[if_neg (of_decide_eq_false (by kernel_rfl))];exact⟨rfl,rfl⟩) (fun os started H enc _=>zI2 os started H enc)
theorem managerGives:Rows.ManagerGivesCardSaid :=
 Claim7.holds_tied_plain_at .later [] _ _ _ _ qGF (fun _ h=>by cases h) (by kernel_rfl) (fun _ h=>by cases h) managerGives_row_tie rfl ⟨rfl,rfl⟩ (by kernel_rfl) rfl
  (fun f fn hf hfn=>by
   obtain rfl:f=3:=jg ((show Tryz.prog.funcNamed "dispatch/dispatchlaw19.ManagerGives" = some 3 by kernel_rfl).symm.trans hf) |>.symm
   obtain rfl:fn=Tryz.f3:=(jg (Tryz.func3.symm.trans hfn)).symm
   exact⟨by kernel_rfl,fun j t ht=>by
    have hp:Tryz.f3.params.toList=[25,3,22,22]:=by kernel_rfl
    have hm:t∈[25,3,22,22]:=by rw[←hp];simpa using uq ht
    have hall:([25,3,22,22].all fun u=>!Tryz.prog.wantsStandIn u)=true:=by kernel_rfl
    exact(show Tryz.prog.wantsStandIn t=false by simpa using fw.1 hall t hm)⟩)
  (zLe Tryz.prog still _ rfl)
end Go.Proofs.YtlmkakccmpncjaaGreatDoor
