/- Part of the proof: texts Pf Pg. No conditions. -/
import Derived.Test.YtlmkakccmpncjaaGreatDoorPb
set_option linter.all false
namespace Go.Proofs.YtlmkakccmpncjaaGreatDoor
open Go Go.W Go.Proofs Go.RowKit
set_option maxRecDepth 100000
theorem zQv:ownKnob Tryz.prog.godebug=none:=by kernel_rfl
theorem zIz:laidOutB Tryz.prog=true:=by kernel_rfl
theorem qUf{D:Type}{R S:TypeId→List D→Prop}(h:∀t vs,R t vs→S t vs):∀{l:List Field} {vs:List D},qBC R l vs→qBC S l vs
 | [],_,h1=>h1
 | _::_,_,⟨a,b,e,h1,h2⟩=>⟨a,b,e,h _ _ h1,qUf h h2⟩
theorem qDN:∀{n:Nat} {t:TypeId} {vs:List (D aC.T)},WT aC Tryz.prog n t vs→WT aC Tryz.prog (n+1) t vs:=by
 intro n
 induction n with
 | zero=>exact fun h=>h.elim
 | succ n ih =>
  intro t vs h
  rw[WT] at h ⊢
  split at h
  ·exact h
  ·exact h
  ·exact h
  ·exact qUf (fun t vs=>ih) h
  ·obtain⟨xs,h1,h2,h3⟩:=h
   exact⟨xs,h1,h2,fun x hx=>ih (h3 x hx)⟩
  ·exact h.elim
theorem eZ{n:Nat}{t:TypeId}{vs:List (D aC.T)}{l:List Go.W.Sh}(h:WT aC Tryz.prog n t vs)(e:∀n,zIK Tryz.prog (n+6) t=l):WS aC Tryz.prog l vs:=by
 have h:=qDN (qDN (qDN (qDN (qDN (qDN h)))))
 have h:=h.flat
 rw[e] at h
 exact h
theorem zI0{n:Nat}{vs:List (D aC.T)}(h:WT aC Tryz.prog n 3 vs):∃x,qUP x=vs:=by
 obtain⟨a0,_,rfl,_,rfl⟩:=eZ (l:=[.i .i64]) h (fun n=>by kernel_rfl)
 exact⟨a0,rfl⟩
theorem zP6{n:Nat}{vs:List (D aC.T)}(h:WT aC Tryz.prog n 5 vs):∃x,zDK x=vs:=by
 obtain⟨a0,_,rfl,_,rfl⟩:=eZ (l:=[.i .u8]) h (fun n=>by kernel_rfl)
 exact⟨a0,rfl⟩
theorem zOe{n:Nat}{vs:List (D aC.T)}(h:WT aC Tryz.prog n 9 vs):∃x,encStr x=vs:=by
 obtain⟨a0,_,rfl,_,rfl⟩:=eZ (l:=[.s]) h (fun n=>by kernel_rfl)
 exact⟨a0,rfl⟩
theorem zOf{n:Nat}{vs:List (D aC.T)}(h:WT aC Tryz.prog n 40 vs):∃x,qUS x=vs:=by
 obtain⟨a0,_,rfl,_,⟨a1,_,rfl,_,rfl⟩⟩:=eZ (l:=[.i .i64,.i .i64]) h (fun n=>by kernel_rfl)
 exact⟨⟨a0,a1⟩,rfl⟩
theorem zP7{n:Nat}{vs:List (D aC.T)}(h:WT aC Tryz.prog n 76 vs):∃x,zDM x=vs:=by
 obtain⟨a0,_,rfl,_,⟨a1,_,rfl,_,rfl⟩⟩:=eZ (l:=[.i .i64,.i .i64]) h (fun n=>by kernel_rfl)
 exact⟨⟨a0,a1⟩,rfl⟩
theorem zP8{n:Nat}{vs:List (D aC.T)}(h:WT aC Tryz.prog n 79 vs):∃x,zDO x=vs:=by
 obtain⟨a0,_,rfl,_,⟨a1,_,rfl,_,_,⟨a2,_,rfl,_,rfl⟩⟩⟩:=eZ (l:=[.s,.l 76,.i .i64]) h (fun n=>by kernel_rfl)
 exact⟨⟨a0,a1,a2⟩,rfl⟩
theorem zP9{n:Nat}{vs:List (D aC.T)}(h:WT aC Tryz.prog n 30 vs):∃x,zDQ x=vs:=by
 obtain⟨a0,_,rfl,_,_,⟨a1,_,rfl,_,_,rfl⟩⟩:=eZ (l:=[.l 9,.l 79]) h (fun n=>by kernel_rfl)
 exact⟨⟨a0,a1⟩,rfl⟩
theorem zPA{n:Nat}{vs:List (D aC.T)}(h:WT aC Tryz.prog n 53 vs):∃x,zDS x=vs:=by
 obtain⟨a0,_,rfl,_,⟨a1,_,rfl,_,⟨a2,_,rfl,_,⟨a3,_,rfl,_,⟨a4,_,rfl,_,⟨a5,_,rfl,_,⟨a6,_,rfl,_,⟨a7,_,rfl,rfl⟩⟩⟩⟩⟩⟩⟩⟩:=eZ (l:=[.i .i64,.i .i64,.i .i64,.i .i64,.i .i64,.i .i64,.i .i64,.b]) h (fun n=>by kernel_rfl)
 exact⟨⟨a0,a1,a2,⟨a3,a4⟩,a5,a6,a7⟩,rfl⟩
theorem zPB{n:Nat}{vs:List (D aC.T)}(h:WT aC Tryz.prog n 131 vs):∃x,zDU x=vs:=by
 obtain⟨a0,_,rfl,_,⟨a1,_,rfl,_,⟨a2,_,rfl,_,⟨a3,_,rfl,_,⟨a4,_,rfl,_,⟨a5,_,rfl,_,⟨a6,_,rfl,_,⟨a7,_,rfl,_,rfl⟩⟩⟩⟩⟩⟩⟩⟩:=eZ (l:=[.i .i64,.i .i64,.i .i64,.i .i64,.i .i64,.i .i64,.i .i64,.i .i64]) h (fun n=>by kernel_rfl)
 exact⟨⟨a0,a1,⟨a2,a3⟩,a4,a5,a6,a7⟩,rfl⟩
theorem zPC{n:Nat}{vs:List (D aC.T)}(h:WT aC Tryz.prog n 43 vs):∃x,zDW x=vs:=by
 obtain⟨a0,_,rfl,_,⟨a1,_,rfl,_,⟨a2,_,rfl,_,⟨a3,_,rfl,_,⟨a4,_,rfl,_,⟨a5,_,rfl,_,⟨a6,_,rfl,_,⟨a7,_,rfl,_,_,⟨a8,_,rfl,_,⟨a9,_,rfl,_,⟨a10,_,rfl,_,_,⟨a11,_,rfl,_,_,⟨a12,_,rfl,_,_,⟨a13,_,rfl,_,_,rfl⟩⟩⟩⟩⟩⟩⟩⟩⟩⟩⟩⟩⟩⟩:=eZ (l:=[.i .i64,.i .i64,.s,.i .i64,.i .i64,.i .i64,.i .i64,.l 131,.i .i64,.i .i64,.l 3,.l 3,.l 3,.l 3]) h (fun n=>by kernel_rfl)
 exact⟨⟨a0,a1,a2,a3,a4,⟨a5,a6⟩,a7,a8,a9,a10,a11,a12,a13⟩,rfl⟩
theorem zPD{n:Nat}{vs:List (D aC.T)}(h:WT aC Tryz.prog n 46 vs):∃x,zDY x=vs:=by
 obtain⟨a0,_,rfl,_,⟨a1,_,rfl,_,⟨a2,_,rfl,_,⟨a3,_,rfl,_,⟨a4,_,rfl,_,⟨a5,_,rfl,_,⟨a6,_,rfl,_,⟨a7,_,rfl,⟨a8,_,rfl,_,rfl⟩⟩⟩⟩⟩⟩⟩⟩⟩:=eZ (l:=[.i .i64,.i .i64,.i .i64,.i .i64,.i .i64,.i .i64,.i .i64,.b,.i .i64]) h (fun n=>by kernel_rfl)
 exact⟨⟨a0,a1,a2,⟨a3,a4⟩,a5,a6,a7,a8⟩,rfl⟩
theorem zPE{n:Nat}{vs:List (D aC.T)}(h:WT aC Tryz.prog n 91 vs):∃x,zEa x=vs:=by
 obtain⟨a0,_,rfl,_,⟨a1,_,rfl,_,⟨a2,_,rfl,_,rfl⟩⟩⟩:=eZ (l:=[.i .i64,.i .i64,.i .i64]) h (fun n=>by kernel_rfl)
 exact⟨⟨a0,a1,a2⟩,rfl⟩
theorem zPF{n:Nat}{vs:List (D aC.T)}(h:WT aC Tryz.prog n 55 vs):∃x,zEc x=vs:=by
 obtain⟨a0,_,rfl,_,⟨a1,_,rfl,_,⟨a2,_,rfl,_,⟨a3,_,rfl,_,⟨a4,_,rfl,_,⟨a5,_,rfl,_,rfl⟩⟩⟩⟩⟩⟩:=eZ (l:=[.i .i64,.i .i64,.i .i64,.i .i64,.i .i64,.i .i64]) h (fun n=>by kernel_rfl)
 exact⟨⟨a0,a1,a2,a3,⟨a4,a5⟩⟩,rfl⟩
theorem zPG{n:Nat}{vs:List (D aC.T)}(h:WT aC Tryz.prog n 37 vs):∃x,zEe x=vs:=by
 obtain⟨a0,_,rfl,_,_,⟨a1,_,rfl,_,_,⟨a2,_,rfl,_,_,⟨a3,_,rfl,_,_,⟨a4,_,rfl,_,_,⟨a5,_,rfl,_,_,⟨a6,_,rfl,_,_,⟨a7,_,rfl,_,⟨a8,_,rfl,_,⟨a9,_,rfl,_,rfl⟩⟩⟩⟩⟩⟩⟩⟩⟩⟩:=eZ (l:=[.l 9,.l 79,.l 53,.l 43,.l 46,.l 91,.l 55,.i .i64,.i .i64,.i .i64]) h (fun n=>by kernel_rfl)
 exact⟨⟨⟨a0,a1⟩,a2,a3,a4,a5,a6,a7,a8,a9⟩,rfl⟩
theorem zPH{n:Nat}{vs:List (D aC.T)}(h:WT aC Tryz.prog n 57 vs):∃x,zEg x=vs:=by
 obtain⟨a0,_,rfl,_,⟨a1,_,rfl,_,⟨a2,_,rfl,_,⟨a3,_,rfl,_,⟨a4,_,rfl,_,⟨a5,_,rfl,_,⟨a6,_,rfl,_,⟨a7,_,rfl,_,⟨a8,_,rfl,_,⟨a9,_,rfl,_,⟨a10,_,rfl,_,⟨a11,_,rfl,_,⟨a12,_,rfl,⟨a13,_,rfl,_,⟨a14,_,rfl,_,⟨a15,_,rfl,_,⟨a16,_,rfl,_,⟨a17,_,rfl,_,⟨a18,_,rfl,_,⟨a19,_,rfl,_,⟨a20,_,rfl,_,_,⟨a21,_,rfl,_,⟨a22,_,rfl,_,⟨a23,_,rfl,_,_,⟨a24,_,rfl,_,_,⟨a25,_,rfl,_,_,⟨a26,_,rfl,_,_,⟨a27,_,rfl,_,_,⟨a28,_,rfl,_,_,⟨a29,_,rfl,_,⟨a30,_,rfl,_,⟨a31,_,rfl,_,⟨a32,_,rfl,_,⟨a33,_,rfl,_,⟨a34,_,rfl,_,rfl⟩⟩⟩⟩⟩⟩⟩⟩⟩⟩⟩⟩⟩⟩⟩⟩⟩⟩⟩⟩⟩⟩⟩⟩⟩⟩⟩⟩⟩⟩⟩⟩⟩⟩⟩:=eZ (l:=[.i .i64,.i .i64,.i .i64,.i .i64,.s,.i .i64,.i .i64,.i .i64,.i .i64,.i .i64,.i .i64,.i .i64,.b,.i .i64,.i .i64,.s,.i .i64,.i .i64,.i .i64,.i .i64,.l 131,.i .i64,.i .i64,.l 3,.l 3,.l 3,.l 3,.l 131,.l 3,.i .i64,.i .i64,.i .i64,.i .i64,.i .i64,.i .i64]) h (fun n=>by kernel_rfl)
 exact⟨⟨a0,a1,a2,a3,a4,⟨a5,a6,a7,⟨a8,a9⟩,a10,a11,a12⟩,⟨a13,a14,a15,a16,a17,⟨a18,a19⟩,a20,a21,a22,a23,a24,a25,a26⟩,a27,a28,⟨a29,a30,a31,a32,⟨a33,a34⟩⟩⟩,rfl⟩
theorem zPI{n:Nat}{vs:List (D aC.T)}(h:WT aC Tryz.prog n 49 vs):∃x,zEi x=vs:=by
 obtain⟨a0,_,rfl,_,⟨a1,_,rfl,_,_,⟨a2,_,rfl,_,_,⟨a3,_,rfl,_,_,⟨a4,_,rfl,_,rfl⟩⟩⟩⟩⟩:=eZ (l:=[.i .i64,.l 46,.l 3,.l 3,.i .i64]) h (fun n=>by kernel_rfl)
 exact⟨⟨a0,a1,a2,a3,a4⟩,rfl⟩
theorem zPJ{n:Nat}{vs:List (D aC.T)}(h:WT aC Tryz.prog n 279 vs):∃x,zEk x=vs:=by
 obtain⟨a0,_,rfl,_,⟨a1,_,rfl,_,rfl⟩⟩:=eZ (l:=[.s,.i .i64]) h (fun n=>by kernel_rfl)
 exact⟨⟨a0,a1⟩,rfl⟩
theorem zPK{n:Nat}{vs:List (D aC.T)}(h:WT aC Tryz.prog n 461 vs):∃x,zEm x=vs:=by
 obtain⟨a0,_,rfl,_,⟨a1,_,rfl,_,rfl⟩⟩:=eZ (l:=[.i .i64,.i .i64]) h (fun n=>by kernel_rfl)
 exact⟨⟨a0,a1⟩,rfl⟩
theorem zPL{n:Nat}{vs:List (D aC.T)}(h:WT aC Tryz.prog n 345 vs):∃x,zEo x=vs:=by
 obtain⟨a0,_,rfl,_,⟨a1,_,rfl,_,rfl⟩⟩:=eZ (l:=[.s,.i .i64]) h (fun n=>by kernel_rfl)
 exact⟨⟨a0,a1⟩,rfl⟩
theorem zPM{n:Nat}{vs:List (D aC.T)}(h:WT aC Tryz.prog n 438 vs):∃x,zEq x=vs:=by
 obtain⟨a0,_,rfl,_,⟨a1,_,rfl,_,⟨a2,_,rfl,_,⟨a3,_,rfl,_,⟨a4,_,rfl,_,rfl⟩⟩⟩⟩⟩:=eZ (l:=[.s,.i .i64,.i .i64,.i .i64,.i .i64]) h (fun n=>by kernel_rfl)
 exact⟨⟨a0,⟨a1,a2⟩,⟨a3,a4⟩⟩,rfl⟩
theorem zOg{n:Nat}{vs:List (D aC.T)}(h:WT aC Tryz.prog n 67 vs):∃x,qUU x=vs:=by
 obtain⟨a0,_,rfl,_,⟨a1,_,rfl,_,⟨a2,_,rfl,_,⟨a3,_,rfl,_,⟨a4,_,rfl,_,rfl⟩⟩⟩⟩⟩:=eZ (l:=[.i .i64,.i .i64,.i .i64,.i .i64,.i .i64]) h (fun n=>by kernel_rfl)
 exact⟨⟨a0,a1,a2,a3,a4⟩,rfl⟩
theorem zI1{n:Nat}{vs:List (D aC.T)}(h:WT aC Tryz.prog n 25 vs):∃x,qJT x=vs:=by
 obtain⟨a0,_,rfl,_,⟨a1,_,rfl,_,_,⟨a2,_,rfl,_,_,rfl⟩⟩⟩:=eZ (l:=[.i .i64,.l 3,.l 67]) h (fun n=>by kernel_rfl)
 exact⟨⟨a0,a1,a2⟩,rfl⟩
theorem zLd{e:Nat}(h0:e≠3)(h1:e≠5)(h2:e≠9)(h3:e≠40)(h4:e≠76)(h5:e≠79)(h6:e≠30)(h7:e≠53)(h8:e≠131)(h9:e≠43)(h10:e≠46)(h11:e≠91)(h12:e≠55)(h13:e≠37)(h14:e≠57)(h15:e≠49)(h16:e≠279)(h17:e≠461)(h18:e≠345)(h19:e≠438)(h20:e≠67)(h21:e≠25):aC.k e=0:=by
 show(qUX e).k=0
 unfold qUX
 split<;>first | contradiction | rfl
theorem zQw:∀n e vs,aC.k e=Tryz.prog.cellsOf e→Tryz.prog.cellsOf e≠0→WT aC Tryz.prog n e vs→∃x,aC.enc e x=vs:=by
 intro n e vs hk hne hw
 by_cases h0:e=3
 ·subst h0;exact zI0 hw
 by_cases h1:e=5
 ·subst h1;exact zP6 hw
 by_cases h2:e=9
 ·subst h2;exact zOe hw
 by_cases h3:e=40
 ·subst h3;exact zOf hw
 by_cases h4:e=76
 ·subst h4;exact zP7 hw
 by_cases h5:e=79
 ·subst h5;exact zP8 hw
 by_cases h6:e=30
 ·subst h6;exact zP9 hw
 by_cases h7:e=53
 ·subst h7;exact zPA hw
 by_cases h8:e=131
 ·subst h8;exact zPB hw
 by_cases h9:e=43
 ·subst h9;exact zPC hw
 by_cases h10:e=46
 ·subst h10;exact zPD hw
 by_cases h11:e=91
 ·subst h11;exact zPE hw
 by_cases h12:e=55
 ·subst h12;exact zPF hw
 by_cases h13:e=37
 ·subst h13;exact zPG hw
 by_cases h14:e=57
 ·subst h14;exact zPH hw
 by_cases h15:e=49
 ·subst h15;exact zPI hw
 by_cases h16:e=279
 ·subst h16;exact zPJ hw
 by_cases h17:e=461
 ·subst h17;exact zPK hw
 by_cases h18:e=345
 ·subst h18;exact zPL hw
 by_cases h19:e=438
 ·subst h19;exact zPM hw
 by_cases h20:e=67
 ·subst h20;exact zOg hw
 by_cases h21:e=25
 ·subst h21;exact zI1 hw
 rw[zLd h0 h1 h2 h3 h4 h5 h6 h7 h8 h9 h10 h11 h12 h13 h14 h15 h16 h17 h18 h19 h20 h21] at hk;exact(hne hk.symm).elim
theorem zQx{n:Nat}{ds:List (D aC.T)}(h:WT aC Tryz.prog n 3 ds):∃a:Int,qQG aC Tryz.prog 3 ds=.d (.int .i64 a):=by
 obtain⟨x,rfl⟩:=zI0 h
 exact⟨x,by kernel_rfl⟩
theorem zPN{n:Nat}{ds:List (D aC.T)}(h:WT aC Tryz.prog n 22 ds):∃a:List Int,qQG aC Tryz.prog 22 ds=.d (.sl 3 a):=by
 obtain⟨a0,_,rfl,_,_,rfl⟩:=eZ (l:=[.l 3]) h (fun n=>by kernel_rfl)
 exact⟨a0,by kernel_rfl⟩
theorem zOh{n:Nat}{ds:List (D aC.T)}(h:WT aC Tryz.prog n 25 ds):∃x:Scr,qQG aC Tryz.prog 25 ds=.agg ((qJT x).map .d):=by
 obtain⟨x,rfl⟩:=zI1 h
 exact⟨x,by kernel_rfl⟩
end Go.Proofs.YtlmkakccmpncjaaGreatDoor
namespace Go.Proofs.YtlmkakccmpncjaaGreatDoor
open Go Go.W Go.Proofs
set_option maxRecDepth 100000
theorem zCJ(x:Scr)(k:Int)(picks raw:List Int):∃(S:Go.W.Spec aC.T) (a:S.α),yN Tryz.prog 3 S∧S.pre a=true∧S.args a=[.agg ((qJT x).map .d),.d (.int .i64 k),.d (.sl 3 picks),.d (.sl 3 raw)]∧S.bH a=[]∧S.out a=.ret (.d (.bool true),[]):=by
 refine⟨qBJ aC [.rcd 25,.int .i64,.dat 3,.dat 3] [.bool] (fun a=>(qGE a).isSome) (fun a=>(qGE a).getD ((false,()):Bool×Unit)),(x,k,picks,raw,()),qPW (qZM zLb) (L:=qUc) (J:=qUd) (by kernel_rfl) rfl (fun a ha=>qL0 (u:=qGE) rfl _ a ha),(qZP x k picks raw).1,rfl,rfl,?_⟩
 show Out.ret (encR aC [.bool] (qQj x k picks raw),[])=_
 rw[(qZP x k picks raw).2]
 rfl
end Go.Proofs.YtlmkakccmpncjaaGreatDoor
