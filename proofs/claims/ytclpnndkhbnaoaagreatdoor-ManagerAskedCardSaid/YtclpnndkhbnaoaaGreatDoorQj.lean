/- Part of the proof: texts Qr2. No conditions. -/
import Derived.Test.YtclpnndkhbnaoaaGreatDoorQi
set_option linter.all false
namespace Go.Proofs.YtclpnndkhbnaoaaGreatDoor
open Go Go.W Go.Proofs Go.ChangeShapes Go.WideShapes Go.ChangeAt Go.RowKit
set_option maxRecDepth 100000
theorem qMl(os:Os)(started:os.Started)(H:Type)(enc:TypeId×Value→H) :
  ReturnsInHanded {} Tryz.checked os 3 .any (fun w args=>(Rows.managerAskedSpec.pre enc Tryz.prog Tryz.f3 Rows.managerAskedRow.domain false w args∧laidMetH Tryz.prog Rows.managerAskedRow.laid w)∧sizedMet enc Tryz.prog Tryz.f3 (OpenSpec.ofChange Rows.managerAskedSpec) false w args)
   (Rows.managerAskedSpec.post enc Tryz.prog Tryz.f3 false true false false):=by
 have hp:Tryz.f3.params.toList=[22,3]:=by kernel_rfl
 refine qGd (C:=Tryz.checked) (X:=fun w _=>laidMetH Tryz.prog Rows.managerAskedRow.laid w) (fun _ _ _ hh h=>h.of_heap hh) (bt:=4) (reg:=aC) qTn started qMj (by kernel_rfl) Tryz.func3 ?_ (by kernel_rfl) (by kernel_rfl) rfl ?_
  (ChangeSpec.witness_shaped (enc:=enc) (C:=Tryz.checked) (os:=os) (X:=fun w _=>laidMetH Tryz.prog Rows.managerAskedRow.laid w) false (World.laidAll Tryz.prog os Rows.managerAskedRow.laid) #[.slice none 0 0,.int .i64 0] 8 (World.laidAll_os _ _ _)
   (World.shaped_of_ZipB (by kernel_rfl) (by kernel_rfl)) (by kernel_rfl) (by kernel_rfl) (by kernel_rfl)
   (by rw[MakeChecks.laidMetH_plain _ _ _ (by kernel_rfl)];exact laidMet_laidAll _ (by kernel_rfl) (by kernel_rfl)))
  8 ?_ qTo (fun _ _ _=>trivial) ?_
 ·rw[hp]
  exact of_decide_eq_true (by kernel_rfl)
 ·intro ds hd
  have hd:ds.length=2:=hd
  match ds,hd with
  | [d0,d1],_=>rfl
 ·rw[hp]
  exact of_decide_eq_true (by kernel_rfl)
 ·intro vs h
  rw[hp] at h
  obtain⟨x0,r0,rfl,h0,x1,r1,rfl,h1,rfl⟩:=h
  obtain⟨a0,q0⟩:=qQ0 h0
  obtain⟨a1,q1⟩:=qTp h1
  rw[show Tryz.checked.prog=Tryz.prog from rfl,q0,q1]
  exact qJr a0 a1
theorem yF:Rows.ManagerAskedSaid :=
 OpenClaim.holds_of_wide 3 Tryz.f3 rfl rfl rfl rfl rfl rfl rfl ⟨rfl,rfl,rfl,rfl,rfl⟩ rfl rfl rfl rfl rfl (by kernel_rfl) Tryz.func3 qNV (of_decide_eq_true (by kernel_rfl))
  (by unfold Func.isWrapper;rw[if_neg (of_decide_eq_false (by kernel_rfl))];exact⟨rfl,rfl⟩) (fun os started H enc _=>qMl os started H enc)
theorem managerAsked:Rows.ManagerAskedCardSaid :=
 Claim7.holds_tied_plain_at .later [] _ _ _ _ yF (fun _ h=>by cases h) (by kernel_rfl) (fun _ h=>by cases h) managerAsked_row_tie rfl ⟨rfl,rfl⟩ (by kernel_rfl) rfl
  (fun f fn hf hfn=>by
   obtain rfl:f=3:=ik ((show Tryz.prog.funcNamed "dispatch/dispatchlaw19.ManagerAsked" = some 3 by kernel_rfl).symm.trans hf) |>.symm
   obtain rfl:fn=Tryz.f3:=(ik (Tryz.func3.symm.trans hfn)).symm
   exact⟨by kernel_rfl,fun j t ht=>by
    have hp:Tryz.f3.params.toList=[22,3]:=by kernel_rfl
    have hm:t∈[22,3]:=by rw[←hp];simpa using qd ht
    have hall:([22,3].all fun u=>!Tryz.prog.wantsStandIn u)=true:=by kernel_rfl
    exact(show Tryz.prog.wantsStandIn t=false by simpa using ek.1 hall t hm)⟩)
  (qNU Tryz.prog still _ rfl)
end Go.Proofs.YtclpnndkhbnaoaaGreatDoor
