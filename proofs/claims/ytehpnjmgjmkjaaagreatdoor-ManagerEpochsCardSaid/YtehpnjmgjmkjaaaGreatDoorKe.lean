/- Part of the proof. No conditions. -/
import Derived.Test.YtehpnjmgjmkjaaaGreatDoorKd
namespace Go.Proofs.YtehpnjmgjmkjaaaGreatDoor
open Go Go.W Go.Proofs Go.RowKit
set_option maxRecDepth 100000
theorem zMN:ownKnob Tryz.prog.godebug=none:=by kernel_rfl
theorem zGf:laidOutB Tryz.prog=true:=by kernel_rfl
theorem qUm{D:Type}{R S:TypeId→List D→Prop}(h:∀t vs,R t vs→S t vs):∀{l:List Field} {vs:List D},qBy R l vs→qBy S l vs
 | [],_,h1=>h1
 | _::_,_,⟨a,b,e,h1,h2⟩=>⟨a,b,e,h _ _ h1,qUm h h2⟩
theorem qD1:∀{n:Nat} {t:TypeId} {vs:List (D aC.T)},WT aC Tryz.prog n t vs→WT aC Tryz.prog (n+1) t vs:=by
 intro n
 induction n with
 | zero=>exact fun h=>h.elim
 | succ n ih =>
  intro t vs h
  rw[WT] at h ⊢
  split at h
  ·exact h
  ·exact h
  ·exact h
  ·exact qUm (fun t vs=>ih) h
  ·obtain⟨xs,h1,h2,h3⟩:=h
   exact⟨xs,h1,h2,fun x hx=>ih (h3 x hx)⟩
  ·exact h.elim
theorem gP{n:Nat}{t:TypeId}{vs:List (D aC.T)}{l:List Go.W.Sh}(h:WT aC Tryz.prog n t vs)(e:∀n,zGz Tryz.prog (n+6) t=l):WS aC Tryz.prog l vs:=by
 have h:=qD1 (qD1 (qD1 (qD1 (qD1 (qD1 h)))))
 have h:=h.flat
 rw[e] at h
 exact h
theorem zKP{r:List Go.W.Sh}{vs:List (D aC.T)}(h:WS aC Tryz.prog (.b::r) vs):∃x t,vs=.bool x::t∧WS aC Tryz.prog r t:=h
theorem dG{k:IntKind}{r:List Go.W.Sh}{vs:List (D aC.T)}(h:WS aC Tryz.prog (.i k::r) vs):∃x t,vs=.int k x::t∧WS aC Tryz.prog r t:=by obtain⟨x,t,e,_,h⟩:=h;exact⟨x,t,e,h⟩
theorem zBt{r:List Go.W.Sh}{vs:List (D aC.T)}(h:WS aC Tryz.prog (.s::r) vs):∃x t,vs=.str x::t∧WS aC Tryz.prog r t:=by obtain⟨x,t,e,_,h⟩:=h;exact⟨x,t,e,h⟩
theorem rO{e:TypeId}{r:List Go.W.Sh}{vs:List (D aC.T)}(h:WS aC Tryz.prog (.l e::r) vs):∃(x:List (TK e)) (t:List (D aC.T)),vs=.sl e x::t∧WS aC Tryz.prog r t:=by obtain⟨x,t,e,_,_,h⟩:=h;exact⟨x,t,e,h⟩
theorem zGg{n:Nat}{vs:List (D aC.T)}(h:WT aC Tryz.prog n 3 vs):∃x,qUZ x=vs:=by
 have h:=gP (l:=[.i .i64]) h (fun n=>by kernel_rfl)
 obtain⟨a0,t0,e0,h0⟩:=dG h
 have e:t0=[]:=h0
 exact⟨a0,by rw[e0,e];rfl⟩
theorem zMe{n:Nat}{vs:List (D aC.T)}(h:WT aC Tryz.prog n 5 vs):∃x,zCu x=vs:=by
 have h:=gP (l:=[.i .u8]) h (fun n=>by kernel_rfl)
 obtain⟨a0,t0,e0,h0⟩:=dG h
 have e:t0=[]:=h0
 exact⟨a0,by rw[e0,e];rfl⟩
theorem zKQ{n:Nat}{vs:List (D aC.T)}(h:WT aC Tryz.prog n 9 vs):∃x,encStr x=vs:=by
 have h:=gP (l:=[.s]) h (fun n=>by kernel_rfl)
 obtain⟨a0,t0,e0,h0⟩:=zBt h
 have e:t0=[]:=h0
 exact⟨a0,by rw[e0,e];rfl⟩
theorem zKR{n:Nat}{vs:List (D aC.T)}(h:WT aC Tryz.prog n 27 vs):∃x,qVc x=vs:=by
 have h:=gP (l:=[.i .i64,.i .i64]) h (fun n=>by kernel_rfl)
 obtain⟨a0,t0,e0,h0⟩:=dG h
 obtain⟨a1,t1,e1,h1⟩:=dG h0
 have e:t1=[]:=h1
 exact⟨⟨a0,a1⟩,by rw[e0,e1,e];rfl⟩
theorem zMf{n:Nat}{vs:List (D aC.T)}(h:WT aC Tryz.prog n 111 vs):∃x,zCw x=vs:=by
 have h:=gP (l:=[.i .i64,.i .i64]) h (fun n=>by kernel_rfl)
 obtain⟨a0,t0,e0,h0⟩:=dG h
 obtain⟨a1,t1,e1,h1⟩:=dG h0
 have e:t1=[]:=h1
 exact⟨⟨a0,a1⟩,by rw[e0,e1,e];rfl⟩
theorem zMg{n:Nat}{vs:List (D aC.T)}(h:WT aC Tryz.prog n 114 vs):∃x,zCy x=vs:=by
 have h:=gP (l:=[.s,.l 111,.i .i64]) h (fun n=>by kernel_rfl)
 obtain⟨a0,t0,e0,h0⟩:=zBt h
 obtain⟨a1,t1,e1,h1⟩:=rO h0
 obtain⟨a2,t2,e2,h2⟩:=dG h1
 have e:t2=[]:=h2
 exact⟨⟨a0,a1,a2⟩,by rw[e0,e1,e2,e];rfl⟩
theorem zMh{n:Nat}{vs:List (D aC.T)}(h:WT aC Tryz.prog n 32 vs):∃x,zC0 x=vs:=by
 have h:=gP (l:=[.l 9,.l 114]) h (fun n=>by kernel_rfl)
 obtain⟨a0,t0,e0,h0⟩:=rO h
 obtain⟨a1,t1,e1,h1⟩:=rO h0
 have e:t1=[]:=h1
 exact⟨⟨a0,a1⟩,by rw[e0,e1,e];rfl⟩
theorem zMi{n:Nat}{vs:List (D aC.T)}(h:WT aC Tryz.prog n 57 vs):∃x,zC2 x=vs:=by
 have h:=gP (l:=[.i .i64,.i .i64,.i .i64,.i .i64,.i .i64,.i .i64,.i .i64,.b]) h (fun n=>by kernel_rfl)
 obtain⟨a0,t0,e0,h0⟩:=dG h
 obtain⟨a1,t1,e1,h1⟩:=dG h0
 obtain⟨a2,t2,e2,h2⟩:=dG h1
 obtain⟨a3,t3,e3,h3⟩:=dG h2
 obtain⟨a4,t4,e4,h4⟩:=dG h3
 obtain⟨a5,t5,e5,h5⟩:=dG h4
 obtain⟨a6,t6,e6,h6⟩:=dG h5
 obtain⟨a7,t7,e7,h7⟩:=zKP h6
 have e:t7=[]:=h7
 exact⟨⟨a0,a1,a2,⟨a3,a4⟩,a5,a6,a7⟩,by rw[e0,e1,e2,e3,e4,e5,e6,e7,e];rfl⟩
theorem zMj{n:Nat}{vs:List (D aC.T)}(h:WT aC Tryz.prog n 95 vs):∃x,zC4 x=vs:=by
 have h:=gP (l:=[.i .i64,.i .i64,.i .i64,.i .i64,.i .i64,.i .i64,.i .i64,.i .i64]) h (fun n=>by kernel_rfl)
 obtain⟨a0,t0,e0,h0⟩:=dG h
 obtain⟨a1,t1,e1,h1⟩:=dG h0
 obtain⟨a2,t2,e2,h2⟩:=dG h1
 obtain⟨a3,t3,e3,h3⟩:=dG h2
 obtain⟨a4,t4,e4,h4⟩:=dG h3
 obtain⟨a5,t5,e5,h5⟩:=dG h4
 obtain⟨a6,t6,e6,h6⟩:=dG h5
 obtain⟨a7,t7,e7,h7⟩:=dG h6
 have e:t7=[]:=h7
 exact⟨⟨a0,a1,⟨a2,a3⟩,a4,a5,a6,a7⟩,by rw[e0,e1,e2,e3,e4,e5,e6,e7,e];rfl⟩
theorem zMk{n:Nat}{vs:List (D aC.T)}(h:WT aC Tryz.prog n 47 vs):∃x,zC6 x=vs:=by
 have h:=gP (l:=[.i .i64,.i .i64,.s,.i .i64,.i .i64,.i .i64,.i .i64,.l 95,.i .i64,.i .i64,.l 3,.l 3,.l 3,.l 3]) h (fun n=>by kernel_rfl)
 obtain⟨a0,t0,e0,h0⟩:=dG h
 obtain⟨a1,t1,e1,h1⟩:=dG h0
 obtain⟨a2,t2,e2,h2⟩:=zBt h1
 obtain⟨a3,t3,e3,h3⟩:=dG h2
 obtain⟨a4,t4,e4,h4⟩:=dG h3
 obtain⟨a5,t5,e5,h5⟩:=dG h4
 obtain⟨a6,t6,e6,h6⟩:=dG h5
 obtain⟨a7,t7,e7,h7⟩:=rO h6
 obtain⟨a8,t8,e8,h8⟩:=dG h7
 obtain⟨a9,t9,e9,h9⟩:=dG h8
 obtain⟨a10,t10,e10,h10⟩:=rO h9
 obtain⟨a11,t11,e11,h11⟩:=rO h10
 obtain⟨a12,t12,e12,h12⟩:=rO h11
 obtain⟨a13,t13,e13,h13⟩:=rO h12
 have e:t13=[]:=h13
 exact⟨⟨a0,a1,a2,a3,a4,⟨a5,a6⟩,a7,a8,a9,a10,a11,a12,a13⟩,by rw[e0,e1,e2,e3,e4,e5,e6,e7,e8,e9,e10,e11,e12,e13,e];rfl⟩
theorem zMl{n:Nat}{vs:List (D aC.T)}(h:WT aC Tryz.prog n 50 vs):∃x,zC8 x=vs:=by
 have h:=gP (l:=[.i .i64,.i .i64,.i .i64,.i .i64,.i .i64,.i .i64,.i .i64,.b,.i .i64]) h (fun n=>by kernel_rfl)
 obtain⟨a0,t0,e0,h0⟩:=dG h
 obtain⟨a1,t1,e1,h1⟩:=dG h0
 obtain⟨a2,t2,e2,h2⟩:=dG h1
 obtain⟨a3,t3,e3,h3⟩:=dG h2
 obtain⟨a4,t4,e4,h4⟩:=dG h3
 obtain⟨a5,t5,e5,h5⟩:=dG h4
 obtain⟨a6,t6,e6,h6⟩:=dG h5
 obtain⟨a7,t7,e7,h7⟩:=zKP h6
 obtain⟨a8,t8,e8,h8⟩:=dG h7
 have e:t8=[]:=h8
 exact⟨⟨a0,a1,a2,⟨a3,a4⟩,a5,a6,a7,a8⟩,by rw[e0,e1,e2,e3,e4,e5,e6,e7,e8,e];rfl⟩
theorem zMm{n:Nat}{vs:List (D aC.T)}(h:WT aC Tryz.prog n 85 vs):∃x,zCA x=vs:=by
 have h:=gP (l:=[.i .i64,.i .i64,.i .i64]) h (fun n=>by kernel_rfl)
 obtain⟨a0,t0,e0,h0⟩:=dG h
 obtain⟨a1,t1,e1,h1⟩:=dG h0
 obtain⟨a2,t2,e2,h2⟩:=dG h1
 have e:t2=[]:=h2
 exact⟨⟨a0,a1,a2⟩,by rw[e0,e1,e2,e];rfl⟩
theorem zMn{n:Nat}{vs:List (D aC.T)}(h:WT aC Tryz.prog n 59 vs):∃x,zCC x=vs:=by
 have h:=gP (l:=[.i .i64,.i .i64,.i .i64,.i .i64,.i .i64,.i .i64]) h (fun n=>by kernel_rfl)
 obtain⟨a0,t0,e0,h0⟩:=dG h
 obtain⟨a1,t1,e1,h1⟩:=dG h0
 obtain⟨a2,t2,e2,h2⟩:=dG h1
 obtain⟨a3,t3,e3,h3⟩:=dG h2
 obtain⟨a4,t4,e4,h4⟩:=dG h3
 obtain⟨a5,t5,e5,h5⟩:=dG h4
 have e:t5=[]:=h5
 exact⟨⟨a0,a1,a2,a3,⟨a4,a5⟩⟩,by rw[e0,e1,e2,e3,e4,e5,e];rfl⟩
theorem zMo{n:Nat}{vs:List (D aC.T)}(h:WT aC Tryz.prog n 39 vs):∃x,zCE x=vs:=by
 have h:=gP (l:=[.l 9,.l 114,.l 57,.l 47,.l 50,.l 85,.l 59,.i .i64,.i .i64,.i .i64]) h (fun n=>by kernel_rfl)
 obtain⟨a0,t0,e0,h0⟩:=rO h
 obtain⟨a1,t1,e1,h1⟩:=rO h0
 obtain⟨a2,t2,e2,h2⟩:=rO h1
 obtain⟨a3,t3,e3,h3⟩:=rO h2
 obtain⟨a4,t4,e4,h4⟩:=rO h3
 obtain⟨a5,t5,e5,h5⟩:=rO h4
 obtain⟨a6,t6,e6,h6⟩:=rO h5
 obtain⟨a7,t7,e7,h7⟩:=dG h6
 obtain⟨a8,t8,e8,h8⟩:=dG h7
 obtain⟨a9,t9,e9,h9⟩:=dG h8
 have e:t9=[]:=h9
 exact⟨⟨⟨a0,a1⟩,a2,a3,a4,a5,a6,a7,a8,a9⟩,by rw[e0,e1,e2,e3,e4,e5,e6,e7,e8,e9,e];rfl⟩
theorem zMp{n:Nat}{vs:List (D aC.T)}(h:WT aC Tryz.prog n 61 vs):∃x,zCG x=vs:=by
 have h:=gP (l:=[.i .i64,.i .i64,.i .i64,.i .i64,.s,.i .i64,.i .i64,.i .i64,.i .i64,.i .i64,.i .i64,.i .i64,.b,.i .i64,.i .i64,.s,.i .i64,.i .i64,.i .i64,.i .i64,.l 95,.i .i64,.i .i64,.l 3,.l 3,.l 3,.l 3,.l 95,.l 3,.i .i64,.i .i64,.i .i64,.i .i64,.i .i64,.i .i64]) h (fun n=>by kernel_rfl)
 obtain⟨a0,t0,e0,h0⟩:=dG h
 obtain⟨a1,t1,e1,h1⟩:=dG h0
 obtain⟨a2,t2,e2,h2⟩:=dG h1
 obtain⟨a3,t3,e3,h3⟩:=dG h2
 obtain⟨a4,t4,e4,h4⟩:=zBt h3
 obtain⟨a5,t5,e5,h5⟩:=dG h4
 obtain⟨a6,t6,e6,h6⟩:=dG h5
 obtain⟨a7,t7,e7,h7⟩:=dG h6
 obtain⟨a8,t8,e8,h8⟩:=dG h7
 obtain⟨a9,t9,e9,h9⟩:=dG h8
 obtain⟨a10,t10,e10,h10⟩:=dG h9
 obtain⟨a11,t11,e11,h11⟩:=dG h10
 obtain⟨a12,t12,e12,h12⟩:=zKP h11
 obtain⟨a13,t13,e13,h13⟩:=dG h12
 obtain⟨a14,t14,e14,h14⟩:=dG h13
 obtain⟨a15,t15,e15,h15⟩:=zBt h14
 obtain⟨a16,t16,e16,h16⟩:=dG h15
 obtain⟨a17,t17,e17,h17⟩:=dG h16
 obtain⟨a18,t18,e18,h18⟩:=dG h17
 obtain⟨a19,t19,e19,h19⟩:=dG h18
 obtain⟨a20,t20,e20,h20⟩:=rO h19
 obtain⟨a21,t21,e21,h21⟩:=dG h20
 obtain⟨a22,t22,e22,h22⟩:=dG h21
 obtain⟨a23,t23,e23,h23⟩:=rO h22
 obtain⟨a24,t24,e24,h24⟩:=rO h23
 obtain⟨a25,t25,e25,h25⟩:=rO h24
 obtain⟨a26,t26,e26,h26⟩:=rO h25
 obtain⟨a27,t27,e27,h27⟩:=rO h26
 obtain⟨a28,t28,e28,h28⟩:=rO h27
 obtain⟨a29,t29,e29,h29⟩:=dG h28
 obtain⟨a30,t30,e30,h30⟩:=dG h29
 obtain⟨a31,t31,e31,h31⟩:=dG h30
 obtain⟨a32,t32,e32,h32⟩:=dG h31
 obtain⟨a33,t33,e33,h33⟩:=dG h32
 obtain⟨a34,t34,e34,h34⟩:=dG h33
 have e:t34=[]:=h34
 exact⟨⟨a0,a1,a2,a3,a4,⟨a5,a6,a7,⟨a8,a9⟩,a10,a11,a12⟩,⟨a13,a14,a15,a16,a17,⟨a18,a19⟩,a20,a21,a22,a23,a24,a25,a26⟩,a27,a28,⟨a29,a30,a31,a32,⟨a33,a34⟩⟩⟩,by rw[e0,e1,e2,e3,e4,e5,e6,e7,e8,e9,e10,e11,e12,e13,e14,e15,e16,e17,e18,e19,e20,e21,e22,e23,e24,e25,e26,e27,e28,e29,e30,e31,e32,e33,e34,e];rfl⟩
theorem zMq{n:Nat}{vs:List (D aC.T)}(h:WT aC Tryz.prog n 53 vs):∃x,zCI x=vs:=by
 have h:=gP (l:=[.i .i64,.l 50,.l 3,.l 3,.i .i64]) h (fun n=>by kernel_rfl)
 obtain⟨a0,t0,e0,h0⟩:=dG h
 obtain⟨a1,t1,e1,h1⟩:=rO h0
 obtain⟨a2,t2,e2,h2⟩:=rO h1
 obtain⟨a3,t3,e3,h3⟩:=rO h2
 obtain⟨a4,t4,e4,h4⟩:=dG h3
 have e:t4=[]:=h4
 exact⟨⟨a0,a1,a2,a3,a4⟩,by rw[e0,e1,e2,e3,e4,e];rfl⟩
theorem zMr{n:Nat}{vs:List (D aC.T)}(h:WT aC Tryz.prog n 285 vs):∃x,zCK x=vs:=by
 have h:=gP (l:=[.s,.i .i64]) h (fun n=>by kernel_rfl)
 obtain⟨a0,t0,e0,h0⟩:=zBt h
 obtain⟨a1,t1,e1,h1⟩:=dG h0
 have e:t1=[]:=h1
 exact⟨⟨a0,a1⟩,by rw[e0,e1,e];rfl⟩
theorem zMs{n:Nat}{vs:List (D aC.T)}(h:WT aC Tryz.prog n 467 vs):∃x,zCM x=vs:=by
 have h:=gP (l:=[.i .i64,.i .i64]) h (fun n=>by kernel_rfl)
 obtain⟨a0,t0,e0,h0⟩:=dG h
 obtain⟨a1,t1,e1,h1⟩:=dG h0
 have e:t1=[]:=h1
 exact⟨⟨a0,a1⟩,by rw[e0,e1,e];rfl⟩
theorem zKS{n:Nat}{vs:List (D aC.T)}(h:WT aC Tryz.prog n 72 vs):∃x,qVe x=vs:=by
 have h:=gP (l:=[.i .i64,.i .i64,.i .i64,.i .i64,.i .i64]) h (fun n=>by kernel_rfl)
 obtain⟨a0,t0,e0,h0⟩:=dG h
 obtain⟨a1,t1,e1,h1⟩:=dG h0
 obtain⟨a2,t2,e2,h2⟩:=dG h1
 obtain⟨a3,t3,e3,h3⟩:=dG h2
 obtain⟨a4,t4,e4,h4⟩:=dG h3
 have e:t4=[]:=h4
 exact⟨⟨a0,a1,a2,a3,a4⟩,by rw[e0,e1,e2,e3,e4,e];rfl⟩
theorem zGh{n:Nat}{vs:List (D aC.T)}(h:WT aC Tryz.prog n 25 vs):∃x,qJD x=vs:=by
 have h:=gP (l:=[.i .i64,.l 3,.l 72]) h (fun n=>by kernel_rfl)
 obtain⟨a0,t0,e0,h0⟩:=dG h
 obtain⟨a1,t1,e1,h1⟩:=rO h0
 obtain⟨a2,t2,e2,h2⟩:=rO h1
 have e:t2=[]:=h2
 exact⟨⟨a0,a1,a2⟩,by rw[e0,e1,e2,e];rfl⟩
theorem zIo{e:Nat}(h0:e≠3)(h1:e≠5)(h2:e≠9)(h3:e≠27)(h4:e≠111)(h5:e≠114)(h6:e≠32)(h7:e≠57)(h8:e≠95)(h9:e≠47)(h10:e≠50)(h11:e≠85)(h12:e≠59)(h13:e≠39)(h14:e≠61)(h15:e≠53)(h16:e≠285)(h17:e≠467)(h18:e≠72)(h19:e≠25):aC.k e=0:=by
 show(qVh e).k=0
 unfold qVh
 split<;>first | contradiction | rfl
theorem zMO:∀n e vs,aC.k e=Tryz.prog.cellsOf e→Tryz.prog.cellsOf e≠0→WT aC Tryz.prog n e vs→∃x,aC.enc e x=vs:=by
 intro n e vs hk hne hw
 by_cases h0:e=3
 ·subst h0;exact zGg hw
 by_cases h1:e=5
 ·subst h1;exact zMe hw
 by_cases h2:e=9
 ·subst h2;exact zKQ hw
 by_cases h3:e=27
 ·subst h3;exact zKR hw
 by_cases h4:e=111
 ·subst h4;exact zMf hw
 by_cases h5:e=114
 ·subst h5;exact zMg hw
 by_cases h6:e=32
 ·subst h6;exact zMh hw
 by_cases h7:e=57
 ·subst h7;exact zMi hw
 by_cases h8:e=95
 ·subst h8;exact zMj hw
 by_cases h9:e=47
 ·subst h9;exact zMk hw
 by_cases h10:e=50
 ·subst h10;exact zMl hw
 by_cases h11:e=85
 ·subst h11;exact zMm hw
 by_cases h12:e=59
 ·subst h12;exact zMn hw
 by_cases h13:e=39
 ·subst h13;exact zMo hw
 by_cases h14:e=61
 ·subst h14;exact zMp hw
 by_cases h15:e=53
 ·subst h15;exact zMq hw
 by_cases h16:e=285
 ·subst h16;exact zMr hw
 by_cases h17:e=467
 ·subst h17;exact zMs hw
 by_cases h18:e=72
 ·subst h18;exact zKS hw
 by_cases h19:e=25
 ·subst h19;exact zGh hw
 rw[zIo h0 h1 h2 h3 h4 h5 h6 h7 h8 h9 h10 h11 h12 h13 h14 h15 h16 h17 h18 h19] at hk;exact(hne hk.symm).elim
theorem zMP{n:Nat}{ds:List (D aC.T)}(h:WT aC Tryz.prog n 3 ds):∃a:Int,qUJ aC Tryz.prog 3 ds=.d (.int .i64 a):=by
 obtain⟨x,rfl⟩:=zGg h
 exact⟨x,by kernel_rfl⟩
theorem zKT{n:Nat}{ds:List (D aC.T)}(h:WT aC Tryz.prog n 25 ds):∃x:Scr,qUJ aC Tryz.prog 25 ds=.agg ((qJD x).map .d):=by
 obtain⟨x,rfl⟩:=zGh h
 exact⟨x,by kernel_rfl⟩
end Go.Proofs.YtehpnjmgjmkjaaaGreatDoor
namespace Go.Proofs.YtehpnjmgjmkjaaaGreatDoor
open Go Go.W Go.Proofs
set_option maxRecDepth 100000
theorem qWP(x:Scr)(n:Int):∃(S:Go.W.Spec aC.T) (a:S.α),xX Tryz.prog 5 S∧S.pre a=true∧S.args a=[.agg ((qJD x).map .d),.d (.int .i64 n)]∧S.bY a=[]∧S.out a=.ret (.d (.bool true),[]):=by
 refine⟨qB4 aC [.rcd 25,.int .i64] [.bool] (fun a=>(qC5 a).isSome) (fun a=>(qC5 a).getD ((false,()):Bool×Unit)),(x,n,()),qQA (zIl zIn) (L:=noL) (J:=noL) (by kernel_rfl) rfl (fun a ha=>qQB (u:=qC5) rfl _ a ha),(qUl x n).1,rfl,rfl,?_⟩
 show Out.ret (encR aC [.bool] (qMm x n),[])=_
 rw[(qUl x n).2]
 rfl
end Go.Proofs.YtehpnjmgjmkjaaaGreatDoor
