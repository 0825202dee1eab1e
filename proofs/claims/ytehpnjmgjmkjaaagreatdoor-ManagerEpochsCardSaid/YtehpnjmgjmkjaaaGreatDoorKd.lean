/- Part of the proof. No conditions. -/
import Derived.Test.YtehpnjmgjmkjaaaGreatDoorKc
import Derived.Test.YtehpnjmgjmkjaaaGreatDoorBn
import Derived.Test.YtehpnjmgjmkjaaaGreatDoorCl
namespace Go.Proofs.YtehpnjmgjmkjaaaGreatDoor
open Go Go.W Go.Proofs
open Go.W.DT (ret need br both bad loop join)
set_option maxRecDepth 100000
def ipK(k:Int):Ip:=⟨k,0,0,0,[],dNd,dAp,[],[],dPn⟩
theorem qUk:dV jE:=rH.ok (by decide)
theorem qOS:qBa=true∧qD0=(true,()):=zBq (by
 have q:=zKK (x:=ipK 99) qUk rfl
 have q2:=qZk (a:=jE) (b:=jE) qUk
 have e:qGV jE jE=true:=by simp[qGV]
 rw[e] at q2
 show(need (mI jE (ipK 99)) (br ((dU jE (ipK 99)).2.1.err==(3:Int)) (need (tK jE (dU jE (ipK 99)).1) (ret ((uK jE (dU jE (ipK 99)).1).1,()))) (ret (false,())))).G (true,())
 rw[q.1,q.2]
 refine bB rfl (fQ rfl ?_)
 show(need (tK jE jE) (ret ((uK jE jE).1,()))).G (true,())
 rw[q2.1,q2.2]
 exact bB rfl rfl)
theorem qZm{s:Se}(h:dV s)(h0:0≤s.epoch):mI s (ipK 11)=true∧dU s (ipK 11)=((qC4 s).2,(qC4 s).1,()):=zGd h rfl h0
theorem qOT{s:Se}(h:s.epoch<1048576):qC4 s=(dOu,{ s with epoch:=s.epoch+1,seq:=0 }):=if_neg (by omega)
theorem zBr{s:Se}(h:s.epoch=1048576):qC4 s=(⟨11,[],[],[],0⟩,s):=if_pos (by omega)
theorem zBs(n:Int):sV n 2=true∧∃k:Int,gU n 2=(k,())∧(k=0∨k=1):=by
 have key:(qEt n 2).G (bif decide (n.tmod 2<0) then w64 (n.tmod 2+2) else n.tmod 2,()):=by
  unfold qEt
  refine bB rfl (aT (bif decide (n.tmod 2<0) then w64 (n.tmod 2+2) else n.tmod 2,()) (qZT (fun h=>?_) fun h=>?_) (aF rfl))
  ·rw[h];rfl
  ·rw[h];rfl
 refine⟨(qLy key).1,_,(qLy key).2,?_⟩
 have h1:=Int.tmod_two_eq n
 rcases h1 with e | e | e<;>rw[e]<;>decide
theorem qUl(x:Scr)(n:Int):qOR x n=true∧qMm x n=(true,()):=zGe (by
 unfold qUj
 rw[qOS.1,qOS.2]
 refine bB rfl (bN rfl ?_)
 have qf:qIB x=true∧qQn x=(decide (x.ns.length≤30)&&decide (x.acts.length≤80),()):=zJU (by
  unfold zER
  refine qZT (fun h=>?_) fun h=>?_
  ·have: decide (x.ns.length≤30)=true:=by simp at h ⊢;omega
   rw[this]
   exact congrArg (fun z=>(z,())) (show decide ((x.acts.length:Int)≤80)=(true&&decide (x.acts.length≤80)) by rw[Bool.eq_iff_iff];simp;omega)
  ·have: decide (x.ns.length≤30)=false:=by simp at h ⊢;omega
   rw[this];rfl)
 rw[qf.1,qf.2]
 refine bB rfl (qZT (fun _=>rfl) fun h=>?_)
 have hx:x.acts.length≤80:=by simp at h;exact h.2
 obtain⟨⟨q1,q2⟩,hr⟩:=zF9 zKn zLO hx
 rw[q1,q2]
 refine bB rfl ?_
 generalize qLW x=s at hr
 have hO:=hr.fine.ok (show 2010+2000*x.acts.length≤1000000000 by omega)
 have h0:=hr.ep0
 have h1:=hr.ep
 have qe:=qZm hO h0
 rw[qOT (by omega)] at qe
 show(need (mI s (ipK 11)) _).G _
 obtain⟨w1,k,w2,hk⟩:=zBs n
 refine bB qe.1 ?_
 show(br (!((dU s (ipK 11)).2.1.err==(0:Int))) (ret (false,())) (br ((dU s (ipK 11)).1.epoch != w64 (s.epoch+(1:Int))) (ret (false,())) (br ((dU s (ipK 11)).1.seq != (0:Int)) (ret (false,())) (br (((dU s (ipK 11)).1.conts.length:Int) != (s.conts.length:Int)) (ret (false,())) _)))).G (true,())
 rw[qe.2]
 refine bN rfl (bN (by show((s.epoch+1 != w64 (s.epoch+1))=false);rw[fE (by omega) (by omega)];simp) (bN rfl (bN (by simp) ?_)))
 rw[w1,w2]
 refine bB rfl ?_
 have he:∀j:Int,j=0∨j=1→w64 (1048575+j)=1048575+j:=fun j hj=>fE (by omega) (by omega)
 show(need (mI { s with epoch:=w64 (1048575+k) } (ipK 11)) (need true (br (k==(1:Int)) (br ((dU { s with epoch:=w64 (1048575+k) } (ipK 11)).2.1.err==(11:Int)) (need (tK { s with epoch:=w64 (1048575+k) } (dU { s with epoch:=w64 (1048575+k) } (ipK 11)).1) (ret ((uK { s with epoch:=w64 (1048575+k) } (dU { s with epoch:=w64 (1048575+k) } (ipK 11)).1).1,()))) (ret (false,()))) (br ((dU { s with epoch:=w64 (1048575+k) } (ipK 11)).2.1.err==(0:Int)) (ret ((dU { s with epoch:=w64 (1048575+k) } (ipK 11)).1.epoch==(1048576:Int),())) (ret (false,())))))).G (true,())
 rw[he k hk]
 have hO2:dV { s with epoch:=1048575+k }:=qZl hO _ _
 have qu:=qZm hO2 (show 0≤1048575+k by omega)
 refine bB qu.1 (bB rfl ?_)
 rw[qu.2]
 rcases hk with rfl | rfl
 ·rw[qOT (show(1048575+0:Int)<1048576 by decide)]
  exact bN rfl (fQ rfl rfl)
 ·rw[zBr (show(1048575+1:Int)=1048576 by decide)]
  refine fQ rfl (fQ rfl ?_)
  have qs:=qZk (a:={ s with epoch:=1048575+1 }) (b:={ s with epoch:=1048575+1 }) hO2
  have e:qGV { s with epoch:=1048575+1 } { s with epoch:=1048575+1 }=true:=by simp[qGV]
  rw[e] at qs
  refine bB qs.1 ?_
  show(ret ((uK { s with epoch:=1048575+1 } { s with epoch:=1048575+1 }).1,())).G (true,())
  rw[qs.2];rfl)
end Go.Proofs.YtehpnjmgjmkjaaaGreatDoor
