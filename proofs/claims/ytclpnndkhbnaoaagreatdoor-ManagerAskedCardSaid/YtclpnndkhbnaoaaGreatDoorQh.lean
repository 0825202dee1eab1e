/- Part of the proof: texts Qm Qn. No conditions. -/
import Derived.Test.YtclpnndkhbnaoaaGreatDoorQg
set_option linter.all false
namespace Go.Proofs.YtclpnndkhbnaoaaGreatDoor
open Go Go.W Go.Proofs Go.RowKit
set_option maxRecDepth 100000
theorem qTn:ownKnob Tryz.prog.godebug=none:=by kernel_rfl
theorem qMj:laidOutB Tryz.prog=true:=by kernel_rfl
theorem qFu{D:Type}{R S:TypeId→List D→Prop}(h:∀t vs,R t vs→S t vs):∀{l:List Field} {vs:List D},rH R l vs→rH S l vs
 | [],_,h1=>h1
 | _::_,_,⟨a,b,e,h1,h2⟩=>⟨a,b,e,h _ _ h1,qFu h h2⟩
theorem uF:∀{n:Nat} {t:TypeId} {vs:List (D aC.T)},WT aC Tryz.prog n t vs→WT aC Tryz.prog (n+1) t vs:=by
 intro n
 induction n with
 | zero=>exact fun h=>h.elim
 | succ n ih =>
  intro t vs h
  rw[WT] at h ⊢
  split at h
  ·exact h
  ·exact h
  ·exact h
  ·exact qFu (fun t vs=>ih) h
  ·obtain⟨xs,h1,h2,h3⟩:=h
   exact⟨xs,h1,h2,fun x hx=>ih (h3 x hx)⟩
  ·exact h.elim
theorem cK{n:Nat}{t:TypeId}{vs:List (D aC.T)}{l:List Go.W.Sh}(h:WT aC Tryz.prog n t vs)(e:∀n,qM3 Tryz.prog (n+6) t=l):WS aC Tryz.prog l vs:=by
 have h:=uF (uF (uF (uF (uF (uF h)))))
 have h:=h.flat
 rw[e] at h
 exact h
theorem qMk{n:Nat}{vs:List (D aC.T)}(h:WT aC Tryz.prog n 3 vs):∃x,qGf x=vs:=by
 obtain⟨a0,_,rfl,_,rfl⟩:=cK (l:=[.i .i64]) h (fun n=>by kernel_rfl)
 exact⟨a0,rfl⟩
theorem qSe{n:Nat}{vs:List (D aC.T)}(h:WT aC Tryz.prog n 5 vs):∃x,qKt x=vs:=by
 obtain⟨a0,_,rfl,_,rfl⟩:=cK (l:=[.i .u8]) h (fun n=>by kernel_rfl)
 exact⟨a0,rfl⟩
theorem qQy{n:Nat}{vs:List (D aC.T)}(h:WT aC Tryz.prog n 9 vs):∃x,encStr x=vs:=by
 obtain⟨a0,_,rfl,_,rfl⟩:=cK (l:=[.s]) h (fun n=>by kernel_rfl)
 exact⟨a0,rfl⟩
theorem qQz{n:Nat}{vs:List (D aC.T)}(h:WT aC Tryz.prog n 25 vs):∃x,qGi x=vs:=by
 obtain⟨a0,_,rfl,_,⟨a1,_,rfl,_,rfl⟩⟩:=cK (l:=[.i .i64,.i .i64]) h (fun n=>by kernel_rfl)
 exact⟨⟨a0,a1⟩,rfl⟩
theorem qSf{n:Nat}{vs:List (D aC.T)}(h:WT aC Tryz.prog n 64 vs):∃x,qKv x=vs:=by
 obtain⟨a0,_,rfl,_,⟨a1,_,rfl,_,rfl⟩⟩:=cK (l:=[.i .i64,.i .i64]) h (fun n=>by kernel_rfl)
 exact⟨⟨a0,a1⟩,rfl⟩
theorem qSg{n:Nat}{vs:List (D aC.T)}(h:WT aC Tryz.prog n 67 vs):∃x,qKx x=vs:=by
 obtain⟨a0,_,rfl,_,⟨a1,_,rfl,_,_,⟨a2,_,rfl,_,rfl⟩⟩⟩:=cK (l:=[.s,.l 64,.i .i64]) h (fun n=>by kernel_rfl)
 exact⟨⟨a0,a1,a2⟩,rfl⟩
theorem qSh{n:Nat}{vs:List (D aC.T)}(h:WT aC Tryz.prog n 29 vs):∃x,qKz x=vs:=by
 obtain⟨a0,_,rfl,_,_,⟨a1,_,rfl,_,_,rfl⟩⟩:=cK (l:=[.l 9,.l 67]) h (fun n=>by kernel_rfl)
 exact⟨⟨a0,a1⟩,rfl⟩
theorem qSi{n:Nat}{vs:List (D aC.T)}(h:WT aC Tryz.prog n 41 vs):∃x,qK1 x=vs:=by
 obtain⟨a0,_,rfl,_,⟨a1,_,rfl,_,⟨a2,_,rfl,_,⟨a3,_,rfl,_,⟨a4,_,rfl,_,⟨a5,_,rfl,_,⟨a6,_,rfl,_,⟨a7,_,rfl,rfl⟩⟩⟩⟩⟩⟩⟩⟩:=cK (l:=[.i .i64,.i .i64,.i .i64,.i .i64,.i .i64,.i .i64,.i .i64,.b]) h (fun n=>by kernel_rfl)
 exact⟨⟨a0,a1,a2,⟨a3,a4⟩,a5,a6,a7⟩,rfl⟩
theorem qSj{n:Nat}{vs:List (D aC.T)}(h:WT aC Tryz.prog n 51 vs):∃x,qK3 x=vs:=by
 obtain⟨a0,_,rfl,_,⟨a1,_,rfl,_,⟨a2,_,rfl,_,⟨a3,_,rfl,_,⟨a4,_,rfl,_,⟨a5,_,rfl,_,⟨a6,_,rfl,_,⟨a7,_,rfl,_,rfl⟩⟩⟩⟩⟩⟩⟩⟩:=cK (l:=[.i .i64,.i .i64,.i .i64,.i .i64,.i .i64,.i .i64,.i .i64,.i .i64]) h (fun n=>by kernel_rfl)
 exact⟨⟨a0,a1,⟨a2,a3⟩,a4,a5,a6,a7⟩,rfl⟩
theorem qSk{n:Nat}{vs:List (D aC.T)}(h:WT aC Tryz.prog n 44 vs):∃x,qK5 x=vs:=by
 obtain⟨a0,_,rfl,_,⟨a1,_,rfl,_,⟨a2,_,rfl,_,⟨a3,_,rfl,_,⟨a4,_,rfl,_,⟨a5,_,rfl,_,⟨a6,_,rfl,_,⟨a7,_,rfl,_,_,⟨a8,_,rfl,_,⟨a9,_,rfl,_,⟨a10,_,rfl,_,_,⟨a11,_,rfl,_,_,⟨a12,_,rfl,_,_,⟨a13,_,rfl,_,_,rfl⟩⟩⟩⟩⟩⟩⟩⟩⟩⟩⟩⟩⟩⟩:=cK (l:=[.i .i64,.i .i64,.s,.i .i64,.i .i64,.i .i64,.i .i64,.l 51,.i .i64,.i .i64,.l 3,.l 3,.l 3,.l 3]) h (fun n=>by kernel_rfl)
 exact⟨⟨a0,a1,a2,a3,a4,⟨a5,a6⟩,a7,a8,a9,a10,a11,a12,a13⟩,rfl⟩
theorem qSl{n:Nat}{vs:List (D aC.T)}(h:WT aC Tryz.prog n 80 vs):∃x,qK7 x=vs:=by
 obtain⟨a0,_,rfl,_,⟨a1,_,rfl,_,⟨a2,_,rfl,_,⟨a3,_,rfl,_,⟨a4,_,rfl,_,⟨a5,_,rfl,_,⟨a6,_,rfl,_,⟨a7,_,rfl,⟨a8,_,rfl,_,rfl⟩⟩⟩⟩⟩⟩⟩⟩⟩:=cK (l:=[.i .i64,.i .i64,.i .i64,.i .i64,.i .i64,.i .i64,.i .i64,.b,.i .i64]) h (fun n=>by kernel_rfl)
 exact⟨⟨a0,a1,a2,⟨a3,a4⟩,a5,a6,a7,a8⟩,rfl⟩
theorem qSm{n:Nat}{vs:List (D aC.T)}(h:WT aC Tryz.prog n 83 vs):∃x,qK9 x=vs:=by
 obtain⟨a0,_,rfl,_,⟨a1,_,rfl,_,⟨a2,_,rfl,_,rfl⟩⟩⟩:=cK (l:=[.i .i64,.i .i64,.i .i64]) h (fun n=>by kernel_rfl)
 exact⟨⟨a0,a1,a2⟩,rfl⟩
theorem qSn{n:Nat}{vs:List (D aC.T)}(h:WT aC Tryz.prog n 46 vs):∃x,qKB x=vs:=by
 obtain⟨a0,_,rfl,_,⟨a1,_,rfl,_,⟨a2,_,rfl,_,⟨a3,_,rfl,_,⟨a4,_,rfl,_,⟨a5,_,rfl,_,rfl⟩⟩⟩⟩⟩⟩:=cK (l:=[.i .i64,.i .i64,.i .i64,.i .i64,.i .i64,.i .i64]) h (fun n=>by kernel_rfl)
 exact⟨⟨a0,a1,a2,a3,⟨a4,a5⟩⟩,rfl⟩
theorem qSo{n:Nat}{vs:List (D aC.T)}(h:WT aC Tryz.prog n 36 vs):∃x,qKD x=vs:=by
 obtain⟨a0,_,rfl,_,_,⟨a1,_,rfl,_,_,⟨a2,_,rfl,_,_,⟨a3,_,rfl,_,_,⟨a4,_,rfl,_,_,⟨a5,_,rfl,_,_,⟨a6,_,rfl,_,_,⟨a7,_,rfl,_,⟨a8,_,rfl,_,⟨a9,_,rfl,_,rfl⟩⟩⟩⟩⟩⟩⟩⟩⟩⟩:=cK (l:=[.l 9,.l 67,.l 41,.l 44,.l 80,.l 83,.l 46,.i .i64,.i .i64,.i .i64]) h (fun n=>by kernel_rfl)
 exact⟨⟨⟨a0,a1⟩,a2,a3,a4,a5,a6,a7,a8,a9⟩,rfl⟩
theorem qSp{n:Nat}{vs:List (D aC.T)}(h:WT aC Tryz.prog n 48 vs):∃x,qKF x=vs:=by
 obtain⟨a0,_,rfl,_,⟨a1,_,rfl,_,⟨a2,_,rfl,_,⟨a3,_,rfl,_,⟨a4,_,rfl,_,⟨a5,_,rfl,_,⟨a6,_,rfl,_,⟨a7,_,rfl,_,⟨a8,_,rfl,_,⟨a9,_,rfl,_,⟨a10,_,rfl,_,⟨a11,_,rfl,_,⟨a12,_,rfl,⟨a13,_,rfl,_,⟨a14,_,rfl,_,⟨a15,_,rfl,_,⟨a16,_,rfl,_,⟨a17,_,rfl,_,⟨a18,_,rfl,_,⟨a19,_,rfl,_,⟨a20,_,rfl,_,_,⟨a21,_,rfl,_,⟨a22,_,rfl,_,⟨a23,_,rfl,_,_,⟨a24,_,rfl,_,_,⟨a25,_,rfl,_,_,⟨a26,_,rfl,_,_,⟨a27,_,rfl,_,_,⟨a28,_,rfl,_,_,⟨a29,_,rfl,_,⟨a30,_,rfl,_,⟨a31,_,rfl,_,⟨a32,_,rfl,_,⟨a33,_,rfl,_,⟨a34,_,rfl,_,rfl⟩⟩⟩⟩⟩⟩⟩⟩⟩⟩⟩⟩⟩⟩⟩⟩⟩⟩⟩⟩⟩⟩⟩⟩⟩⟩⟩⟩⟩⟩⟩⟩⟩⟩⟩:=cK (l:=[.i .i64,.i .i64,.i .i64,.i .i64,.s,.i .i64,.i .i64,.i .i64,.i .i64,.i .i64,.i .i64,.i .i64,.b,.i .i64,.i .i64,.s,.i .i64,.i .i64,.i .i64,.i .i64,.l 51,.i .i64,.i .i64,.l 3,.l 3,.l 3,.l 3,.l 51,.l 3,.i .i64,.i .i64,.i .i64,.i .i64,.i .i64,.i .i64]) h (fun n=>by kernel_rfl)
 exact⟨⟨a0,a1,a2,a3,a4,⟨a5,a6,a7,⟨a8,a9⟩,a10,a11,a12⟩,⟨a13,a14,a15,a16,a17,⟨a18,a19⟩,a20,a21,a22,a23,a24,a25,a26⟩,a27,a28,⟨a29,a30,a31,a32,⟨a33,a34⟩⟩⟩,rfl⟩
theorem qSq{n:Nat}{vs:List (D aC.T)}(h:WT aC Tryz.prog n 55 vs):∃x,qKH x=vs:=by
 obtain⟨a0,_,rfl,_,⟨a1,_,rfl,_,_,⟨a2,_,rfl,_,_,⟨a3,_,rfl,_,_,⟨a4,_,rfl,_,rfl⟩⟩⟩⟩⟩:=cK (l:=[.i .i64,.l 80,.l 3,.l 3,.i .i64]) h (fun n=>by kernel_rfl)
 exact⟨⟨a0,a1,a2,a3,a4⟩,rfl⟩
theorem qSr{n:Nat}{vs:List (D aC.T)}(h:WT aC Tryz.prog n 278 vs):∃x,qKJ x=vs:=by
 obtain⟨a0,_,rfl,_,⟨a1,_,rfl,_,rfl⟩⟩:=cK (l:=[.s,.i .i64]) h (fun n=>by kernel_rfl)
 exact⟨⟨a0,a1⟩,rfl⟩
theorem qSs{n:Nat}{vs:List (D aC.T)}(h:WT aC Tryz.prog n 368 vs):∃x,qKL x=vs:=by
 obtain⟨a0,_,rfl,_,⟨a1,_,rfl,_,⟨a2,_,rfl,_,⟨a3,_,rfl,_,⟨a4,_,rfl,_,rfl⟩⟩⟩⟩⟩:=cK (l:=[.s,.i .i64,.i .i64,.i .i64,.i .i64]) h (fun n=>by kernel_rfl)
 exact⟨⟨a0,⟨a1,a2⟩,⟨a3,a4⟩⟩,rfl⟩
theorem qNT{e:Nat}(h0:e≠3)(h1:e≠5)(h2:e≠9)(h3:e≠25)(h4:e≠64)(h5:e≠67)(h6:e≠29)(h7:e≠41)(h8:e≠51)(h9:e≠44)(h10:e≠80)(h11:e≠83)(h12:e≠46)(h13:e≠36)(h14:e≠48)(h15:e≠55)(h16:e≠278)(h17:e≠368):aC.k e=0:=by
 show(qGk e).k=0
 unfold qGk
 split<;>first | contradiction | rfl
theorem qTo:∀n e vs,aC.k e=Tryz.prog.cellsOf e→Tryz.prog.cellsOf e≠0→WT aC Tryz.prog n e vs→∃x,aC.enc e x=vs:=by
 intro n e vs hk hne hw
 by_cases h0:e=3
 ·subst h0;exact qMk hw
 by_cases h1:e=5
 ·subst h1;exact qSe hw
 by_cases h2:e=9
 ·subst h2;exact qQy hw
 by_cases h3:e=25
 ·subst h3;exact qQz hw
 by_cases h4:e=64
 ·subst h4;exact qSf hw
 by_cases h5:e=67
 ·subst h5;exact qSg hw
 by_cases h6:e=29
 ·subst h6;exact qSh hw
 by_cases h7:e=41
 ·subst h7;exact qSi hw
 by_cases h8:e=51
 ·subst h8;exact qSj hw
 by_cases h9:e=44
 ·subst h9;exact qSk hw
 by_cases h10:e=80
 ·subst h10;exact qSl hw
 by_cases h11:e=83
 ·subst h11;exact qSm hw
 by_cases h12:e=46
 ·subst h12;exact qSn hw
 by_cases h13:e=36
 ·subst h13;exact qSo hw
 by_cases h14:e=48
 ·subst h14;exact qSp hw
 by_cases h15:e=55
 ·subst h15;exact qSq hw
 by_cases h16:e=278
 ·subst h16;exact qSr hw
 by_cases h17:e=368
 ·subst h17;exact qSs hw
 rw[qNT h0 h1 h2 h3 h4 h5 h6 h7 h8 h9 h10 h11 h12 h13 h14 h15 h16 h17] at hk;exact(hne hk.symm).elim
theorem qTp{n:Nat}{ds:List (D aC.T)}(h:WT aC Tryz.prog n 3 ds):∃a:Int,qFQ aC Tryz.prog 3 ds=.d (.int .i64 a):=by
 obtain⟨x,rfl⟩:=qMk h
 exact⟨x,by kernel_rfl⟩
theorem qQ0{n:Nat}{ds:List (D aC.T)}(h:WT aC Tryz.prog n 22 ds):∃a:List Ak,qFQ aC Tryz.prog 22 ds=.d (.sl 51 a):=by
 obtain⟨a0,_,rfl,_,_,rfl⟩:=cK (l:=[.l 51]) h (fun n=>by kernel_rfl)
 exact⟨a0,by kernel_rfl⟩
end Go.Proofs.YtclpnndkhbnaoaaGreatDoor
namespace Go.Proofs.YtclpnndkhbnaoaaGreatDoor
open Go Go.W Go.Proofs
set_option maxRecDepth 100000
theorem qJr(l:List Ak)(kk:Int):∃(S:Go.W.Spec aC.T) (a:S.α),pX Tryz.prog 3 S∧S.pre a=true∧S.args a=[.d (.sl 51 l),.d (.int .i64 kk)]∧S.aL a=[]∧S.out a=.ret (.d (.bool true),[]):=by
 refine⟨uR aC [.dat 51,.int .i64] [.bool] (fun a=>(yA a).isSome) (fun a=>(yA a).getD ((false,()):Bool×Unit)),(l,kk,()),zF (qNN qNP) (L:=qFp) (J:=qFq) (by kernel_rfl) rfl (fun a ha=>zG (u:=yA) rfl _ a ha),(qIj l kk).1,rfl,rfl,?_⟩
 show Out.ret (encR aC [.bool] (qDM l kk),[])=_
 rw[(qIj l kk).2]
 rfl
end Go.Proofs.YtclpnndkhbnaoaaGreatDoor
