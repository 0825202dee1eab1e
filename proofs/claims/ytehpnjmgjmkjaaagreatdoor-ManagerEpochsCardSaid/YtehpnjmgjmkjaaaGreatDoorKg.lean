/- ManagerEpochs: for every input its function answers true, and all reads as it did; the card. No conditions. -/
import Derived.Test.YtehpnjmgjmkjaaaGreatDoorKe
import Derived.Test.YtehpnjmgjmkjaaaGreatDoorTi6
import Derived.Test.YtehpnjmgjmkjaaaGreatDoorCards
import Derived.ProofKit
import Derived.OpenShut
import Derived.LaidMore
import Derived.Lay
import Derived.SevenTiedAt
import Derived.Stop.Joined
import Derived.JoinedOf
namespace Go.Proofs.YtehpnjmgjmkjaaaGreatDoor
open Go Go.W Go.Proofs Go.ChangeShapes Go.WideShapes Go.ChangeAt Go.RowKit
set_option maxRecDepth 100000
theorem zIp(P:Program)(still:(P.funcs.toList.all fun fn=>!fn.goes)=true)(c:OpenClaim)(hc:c.start=.entering):false=c.goesBy P:=by
 have h1:∀fn∈P.funcs.toList,fn.goes=false:=fun fn h=>by simpa using List.all_eq_true.1 still fn h
 have h2:∀g:FuncId,((P.funcs[g]?).any Func.goes)=false:=fun g=>by
  cases hg:P.funcs[g]? with
  | none=>rfl
  | some fn=>exact h1 fn (by rw[Array.mem_toList_iff];exact Array.mem_of_getElem? hg)
 have h3:P.funcs.any Func.goes=false:=by
  rw[←Bool.not_eq_true,Array.any_eq_true']
  rintro⟨fn,hm,hg⟩
  rw[h1 fn (by rw[Array.mem_toList_iff];exact hm)] at hg
  cases hg
 have h4:∀f:FuncId,P.goes f=false:=fun f=>by
  unfold Program.goes
  rw[h3,Bool.and_false,Bool.or_false,←Bool.not_eq_true,List.any_eq_true]
  rintro⟨g,_,hg⟩
  rw[h2 g] at hg;cases hg
 unfold OpenClaim.goesBy Program.goesAt Program.goesFrom
 rw[hc]
 simp only[Bool.or_false]
 cases P.funcNamed c.func with
 | none=>rfl
 | some f=>exact(h4 f).symm
theorem still:(Tryz.prog.funcs.toList.all fun fn=>!fn.goes)=true:=by kernel_rfl
theorem zMQ:(Rows.managerEpochsRow.inPlace==Tryz.prog.inPlace 5)=true:=by kernel_rfl
theorem zMR:(Rows.managerEpochsRow.unfollowed==Tryz.prog.unfollowed 5)=true:=by kernel_rfl
theorem zMS:(Rows.managerEpochsRow.recurses==Tryz.prog.recurses 5)=true:=by kernel_rfl
theorem zMT:(Rows.managerEpochsRow.named==Tryz.prog.varsNamed 5)=true:=by kernel_rfl
theorem zIq:joinedFacts Tryz.prog 5 Tryz.f5 Rows.managerEpochsSpec Rows.managerEpochsRow=true:=by
 unfold joinedFacts
 rw[zMQ,zMR,zMS,zMT]
 kernel_rfl
theorem zGi(os:Os)(started:os.Started)(H:Type)(enc:TypeId×Value→H) :
  ReturnsInHanded {} Tryz.checked os 5 .any (fun w args=>(Rows.managerEpochsSpec.pre enc Tryz.prog Tryz.f5 Rows.managerEpochsRow.domain false w args∧laidMetH Tryz.prog Rows.managerEpochsRow.laid w)∧sizedMet enc Tryz.prog Tryz.f5 (OpenSpec.ofChange Rows.managerEpochsSpec) false w args)
   (Rows.managerEpochsSpec.post enc Tryz.prog Tryz.f5 false true false false):=by
 have hp:Tryz.f5.params.toList=[25,3]:=by kernel_rfl
 refine qUW (C:=Tryz.checked) (X:=fun w _=>laidMetH Tryz.prog Rows.managerEpochsRow.laid w) (fun _ _ _ hh h=>h.of_heap hh) (bt:=4) (reg:=aC) zMN started zGf (by kernel_rfl) Tryz.func5 ?_ (by kernel_rfl) (by kernel_rfl) rfl ?_
  (ChangeSpec.witness_shaped (enc:=enc) (C:=Tryz.checked) (os:=os) (X:=fun w _=>laidMetH Tryz.prog Rows.managerEpochsRow.laid w) false (World.laidAll Tryz.prog os Rows.managerEpochsRow.laid) #[.agg #[.int .i64 0,.slice none 0 0,.slice none 0 0],.int .i64 0] 8 (World.laidAll_os _ _ _)
   (World.shaped_of_ZipB (by kernel_rfl) (by kernel_rfl)) (by kernel_rfl) (by kernel_rfl) (by kernel_rfl)
   (by rw[MakeChecks.laidMetH_plain _ _ _ (by kernel_rfl)];exact laidMet_laidAll _ (by kernel_rfl) (by kernel_rfl)))
  8 ?_ zMO (fun _ _ _=>trivial) ?_
 ·rw[hp]
  exact of_decide_eq_true (by kernel_rfl)
 ·intro ds hd
  have hd:ds.length=2:=hd
  match ds,hd with
  | [d0,d1],_=>rfl
 ·rw[hp]
  exact of_decide_eq_true (by kernel_rfl)
 ·intro vs h
  rw[hp] at h
  obtain⟨x0,r0,rfl,h0,x1,r1,rfl,h1,rfl⟩:=h
  obtain⟨a0,q0⟩:=zKT h0
  obtain⟨a1,q1⟩:=zMP h1
  rw[show Tryz.checked.prog=Tryz.prog from rfl,q0,q1]
  exact qWP a0 a1
theorem qE4:Rows.ManagerEpochsSaid :=
 OpenClaim.holds_of_wide 5 Tryz.f5 rfl rfl rfl rfl rfl rfl rfl ⟨rfl,rfl,rfl,rfl,rfl⟩ rfl rfl rfl rfl rfl (by kernel_rfl) Tryz.func5 zIq (of_decide_eq_true (by kernel_rfl))
  (by unfold Func.isWrapper;rw[if_neg (of_decide_eq_false (by kernel_rfl))];exact⟨rfl,rfl⟩) (fun os started H enc _=>zGi os started H enc)
theorem managerEpochs:Rows.ManagerEpochsCardSaid :=
 Claim7.holds_tied_plain_at .later [] _ _ _ _ qE4 (fun _ h=>by cases h) (by kernel_rfl) (fun _ h=>by cases h) managerEpochs_row_tie rfl ⟨rfl,rfl⟩ (by kernel_rfl) rfl
  (fun f fn hf hfn=>by
   obtain rfl:f=5:=Option.some.inj ((show Tryz.prog.funcNamed "dispatch/dispatchlaw19.ManagerEpochs" = some 5 by kernel_rfl).symm.trans hf) |>.symm
   obtain rfl:fn=Tryz.f5:=(Option.some.inj (Tryz.func5.symm.trans hfn)).symm
   exact⟨by kernel_rfl,fun j t ht=>by
    have hp:Tryz.f5.params.toList=[25,3]:=by kernel_rfl
    have hm:t∈[25,3]:=by rw[←hp];simpa using Array.mem_of_getElem? ht
    have hall:([25,3].all fun u=>!Tryz.prog.wantsStandIn u)=true:=by kernel_rfl
    exact(show Tryz.prog.wantsStandIn t=false by simpa using List.all_eq_true.1 hall t hm)⟩)
  (zIp Tryz.prog still _ rfl)
end Go.Proofs.YtehpnjmgjmkjaaaGreatDoor
