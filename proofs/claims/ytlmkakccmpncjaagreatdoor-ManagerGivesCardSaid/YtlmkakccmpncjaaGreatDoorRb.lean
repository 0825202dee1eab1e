/- Part of the proof: texts Rc Rd. No conditions. -/
import Derived.Test.YtlmkakccmpncjaaGreatDoorRa
set_option linter.all false
noncomputable section
namespace Go.Proofs.YtlmkakccmpncjaaGreatDoor
open Sum
open Go Go.W Go.Proofs
set_option maxRecDepth 100000
def sm(n:Nat):Bool:=Nat.ble n 1000000000
theorem eH{n:Nat}:sm n=true↔n≤1000000000:=qHb
def zMz(a:Ap):Bool:=sm a.asks.length&&sm a.grants.length&&sm a.kills.length&&sm a.told.length&&sm a.lost.length&&sm a.queue.length
def zOO(q:Qu):Bool:=sm q.caps.length&&sm q.path.length
def bN(s:Se):Bool:=sm s.nodes.length&&sm s.apps.length&&sm s.conts.length&&sm s.slots.length&&sm s.plans.length&&sm s.conf.labels.length&&sm s.conf.queues.length&&s.apps.all zMz&&s.conf.queues.all zOO&&s.conf.labels.all fun l=>sm l.length
structure qIv(a:Ap):Prop where
 asks:a.asks.length≤1000000000
 grants:a.grants.length≤1000000000
 kills:a.kills.length≤1000000000
 told:a.told.length≤1000000000
 lost:a.lost.length≤1000000000
 queue:a.queue.length≤1000000000
theorem zEx{a:Ap}:zMz a=true↔qIv a:=by
 simp only[zMz,bn,eH]
 exact⟨fun⟨⟨⟨⟨⟨h1,h2⟩,h3⟩,h4⟩,h5⟩,h6⟩=>⟨h1,h2,h3,h4,h5,h6⟩,fun⟨h1,h2,h3,h4,h5,h6⟩=>⟨⟨⟨⟨⟨h1,h2⟩,h3⟩,h4⟩,h5⟩,h6⟩⟩
structure dH(s:Se):Prop where
 nodes:s.nodes.length≤1000000000
 apps:s.apps.length≤1000000000
 conts:s.conts.length≤1000000000
 slots:s.slots.length≤1000000000
 plans:s.plans.length≤1000000000
 labels:s.conf.labels.length≤1000000000
 queues:s.conf.queues.length≤1000000000
 app:∀a∈s.apps,qIv a
 qu:∀q∈s.conf.queues,q.caps.length≤1000000000∧q.path.length≤1000000000
 lab:∀l∈s.conf.labels,l.length≤1000000000
theorem aM{s:Se}:bN s=true↔dH s:=by
 simp only[bN,zOO,bn,eH,fw,zEx]
 exact⟨fun⟨⟨⟨⟨⟨⟨⟨⟨⟨h1,h2⟩,h3⟩,h4⟩,h5⟩,h6⟩,h7⟩,h8⟩,h9⟩,h10⟩=>⟨h1,h2,h3,h4,h5,h6,h7,h8,h9,h10⟩,fun⟨h1,h2,h3,h4,h5,h6,h7,h8,h9,h10⟩=>⟨⟨⟨⟨⟨⟨⟨⟨⟨h1,h2⟩,h3⟩,h4⟩,h5⟩,h6⟩,h7⟩,h8⟩,h9⟩,h10⟩⟩
theorem dI{n:Int}(h1 : -9223372036854775808≤n)(h2:n≤9223372036854775807):w64 n=n:=IntWalk.i64_in _ ⟨h1,h2⟩
theorem aD{i n:Nat}(h:i<n)(hn:n≤1000000000):w64 ((i:Int)+1)=((i+1:Nat):Int):=by rw[dI]<;>omega
def shut{α:Type}(f:α):α:=Classical.choose (⟨f,rfl⟩:∃g:α,g=f)
theorem aK{α:Type}(f:α):shut f=f:=qw (⟨f,rfl⟩:∃g:α,g=f)
def fQ(a b:Vec):Vec:=⟨w64 (a.mem+b.mem),w64 (a.cores+b.cores)⟩
def findD{α:Type}(d:α)(p:α→Bool)(l:List α):α×Bool:=match l.find? p with | some a=>(a,true) | none=>(d,false)
def aU(s:Se)(id:Int):Nd×Bool:=findD dNd (fun n=>n.id==id) s.nodes
def qKc(s:Se)(id:Int):Vec:=s.conts.foldl (fun v c=>bif c.node==id then fQ v c.size else v) gQ
def nK(s:Se):List Int:=s.nodes.filterMap fun n=>bif n.up&&decide (w64 (s.now-n.seen)≥10) then some n.id else none
def uU(l:List Ak)(prio:Int):Ak×Bool:=findD dAk (fun a=>a.prio==prio) l
def qF0(l:List Ak)(label:Int):Vec:=l.foldl (fun v a=>bif a.label==label then fQ v ⟨w64 (a.size.mem*a.count),w64 (a.size.cores*a.count)⟩ else v) gQ
def gB(s:Se)(label:Int):Vec:=s.nodes.foldl (fun v n=>bif n.up&&n.label==label then fQ v n.cap else v) gQ
def qRj(s:Se)(label:Int):Vec:=s.plans.foldl (fun v p=>bif p.label==label&&decide (p.start≤s.now)&&decide (s.now<p.stop) then fQ v p.need else v) gQ
def aB(s:Se)(id:Int):Ap×Bool:=findD dAp (fun a=>a.id==id) s.apps
def aL(s:Se)(id:Int):Ct×Bool:=findD dCt (fun c=>c.id==id) s.conts
def pK(s:Se)(id:Int):Se:={ s with conts:=s.conts.filter fun c=>c.id != id }
def zR(s:Se):List Int:=s.apps.filterMap fun a=>bif a.state==2&&decide (w64 (s.now-a.seen)≥15) then some a.id else none
theorem fD{α ρ:Type}(p:α→Bool)(g:α→Bool→ρ)(d:α)(l:List α):scan (fun(_:Unit) a=>bif p a then .inr (g a true) else .inl ()) (fun _=>g d false) l ()=g (findD d p l).1 (findD d p l).2:=by
 rw[qHc p (fun a=>g a true) (g d false)]
 unfold findD
 cases l.find? p<;>rfl
theorem zIZ{s:Se}(id:Int)(h:dH s):(qPd s id).G ((aU s id).1,(aU s id).2,()):=by
 unfold qPd
 refine iU s.nodes dNd (fun i (_:Unit)=>(i,())) (fun _ a=>bif a.id==id then .inr (a,true,()) else .inl ()) (fun _=>(dNd,false,())) (fun _ _=>True) (fun i b hi _=>?_) (fun b _=>?_) (b0:=()) trivial (fD _ (fun a b=>(a,b,())) dNd _)
 ·have h1:=aD hi h.nodes
  cases hc:(s.nodes.getD i dNd).id==id<;>simp_all
 ·simp
theorem zM0{l:List Ak}(prio:Int)(h:l.length≤1000000000):(qUY l prio).G ((uU l prio).1,(uU l prio).2,()):=by
 unfold qUY
 refine iU l dAk (fun i (_:Unit)=>(i,())) (fun _ a=>bif a.prio==prio then .inr (a,true,()) else .inl ()) (fun _=>(dAk,false,())) (fun _ _=>True) (fun i b hi _=>?_) (fun b _=>?_) (b0:=()) trivial (fD _ (fun a b=>(a,b,())) dAk _)
 ·have h1:=aD hi h
  cases hc:(l.getD i dAk).prio==prio<;>simp_all
 ·simp
theorem zEy{s:Se}(id:Int)(h:dH s):(qJX s id).G ((aB s id).1,(aB s id).2,()):=by
 unfold qJX
 refine iU s.apps dAp (fun i (_:Unit)=>(i,())) (fun _ a=>bif a.id==id then .inr (a,true,()) else .inl ()) (fun _=>(dAp,false,())) (fun _ _=>True) (fun i b hi _=>?_) (fun b _=>?_) (b0:=()) trivial (fD _ (fun a b=>(a,b,())) dAp _)
 ·have h1:=aD hi h.apps
  cases hc:(s.apps.getD i dAp).id==id<;>simp_all
 ·simp
theorem zEz{s:Se}(id:Int)(h:dH s):(qJY s id).G ((aL s id).1,(aL s id).2,()):=by
 unfold qJY
 refine iU s.conts dCt (fun i (_:Unit)=>(i,())) (fun _ a=>bif a.id==id then .inr (a,true,()) else .inl ()) (fun _=>(dCt,false,())) (fun _ _=>True) (fun i b hi _=>?_) (fun b _=>?_) (b0:=()) trivial (fD _ (fun a b=>(a,b,())) dCt _)
 ·have h1:=aD hi h.conts
  cases hc:(s.conts.getD i dCt).id==id<;>simp_all
 ·simp
theorem zJa{s:Se}(id:Int)(h:dH s):(qPe s id).G (qKc s id,()):=by
 unfold qPe
 refine iU s.conts dCt (fun i (v:Vec)=>(i,(v,()),())) (fun v a=>.inl (bif a.node==id then fQ v a.size else v)) (fun v=>(v,())) (fun _ _=>True) (fun i b hi _=>?_) (fun b _=>?_) (b0:=gQ) trivial (bM (fin:=fun v=>(v,())) _ _ _)
 ·have h1:=aD hi h.conts
  cases hc0:(s.conts.getD i dCt).node==id<;>simp_all [fQ]<;>(intros;omega)
 ·simp
theorem qVb{l:List Ak}(label:Int)(h:l.length≤1000000000):(qEw l label).G (qF0 l label,()):=by
 unfold qEw
 refine iU l dAk (fun i (v:Vec)=>(i,(v,()),())) (fun v a=>.inl (bif a.label==label then fQ v ⟨w64 (a.size.mem*a.count),w64 (a.size.cores*a.count)⟩ else v)) (fun v=>(v,())) (fun _ _=>True) (fun i b hi _=>?_) (fun b _=>?_) (b0:=gQ) trivial (bM (fin:=fun v=>(v,())) _ _ _)
 ·have h1:=aD hi h
  cases hc0:(l.getD i dAk).label==label<;>simp_all [fQ]<;>(intros;omega)
 ·simp
theorem zE0{s:Se}(label:Int)(h:dH s):(qJW s label).G (gB s label,()):=by
 unfold qJW
 refine iU s.nodes dNd (fun i (v:Vec)=>(i,(v,()),())) (fun v a=>.inl (bif a.up&&a.label==label then fQ v a.cap else v)) (fun v=>(v,())) (fun _ _=>True) (fun i b hi _=>?_) (fun b _=>?_) (b0:=gQ) trivial (bM (fin:=fun v=>(v,())) _ _ _)
 ·have h1:=aD hi h.nodes
  cases hc0:(s.nodes.getD i dNd).up<;>cases hc1:(s.nodes.getD i dNd).label==label<;>simp_all [fQ]<;>(intros;omega)
 ·simp
theorem zJb{s:Se}(label:Int)(h:dH s):(qPf s label).G (qRj s label,()):=by
 unfold qPf
 refine iU s.plans dPn (fun i (v:Vec)=>(i,(v,()),())) (fun v a=>.inl (bif a.label==label&&decide (a.start≤s.now)&&decide (s.now<a.stop) then fQ v a.need else v)) (fun v=>(v,())) (fun _ _=>True) (fun i b hi _=>?_) (fun b _=>?_) (b0:=gQ) trivial (bM (fin:=fun v=>(v,())) _ _ _)
 ·have h1:=aD hi h.plans
  cases hc0:(s.plans.getD i dPn).label==label<;>cases hc1:decide ((s.plans.getD i dPn).start≤s.now)<;>cases hc2:decide (s.now<(s.plans.getD i dPn).stop)<;>simp_all [fQ]<;>(intros;omega)
 ·simp
theorem zAB{s:Se}(h:dH s):(qHd s).G (nK s,()):=by
 unfold qHd
 refine iU s.nodes dNd (fun i (v:List Int)=>(v,i,())) (fun v a=>.inl (sW v (bif a.up&&decide (w64 (s.now-a.seen)≥10) then some a.id else none))) (fun v=>(v,())) (fun i b=>b.length≤i) (fun i b hi hI=>?_) (fun b hI=>?_) (b0:=[]) (cz _) ?_
 ·have h1:=aD hi h.nodes
  have h2:=h.nodes
  cases hc0:(s.nodes.getD i dNd).up<;>cases hc1:decide (w64 (s.now-(s.nodes.getD i dNd).seen)≥10)<;>simp_all [sW]<;>omega
 ·simp[aO]
 ·rw[bM (fin:=fun v=>(v,())),fold_filterMap];rfl
theorem qVc{s:Se}(h:dH s):(qEx s).G (zR s,()):=by
 unfold qEx
 refine iU s.apps dAp (fun i (v:List Int)=>(v,i,())) (fun v a=>.inl (sW v (bif a.state==2&&decide (w64 (s.now-a.seen)≥15) then some a.id else none))) (fun v=>(v,())) (fun i b=>b.length≤i) (fun i b hi hI=>?_) (fun b hI=>?_) (b0:=[]) (cz _) ?_
 ·have h1:=aD hi h.apps
  have h2:=h.apps
  cases hc0:(s.apps.getD i dAp).state==2<;>cases hc1:decide (w64 (s.now-(s.apps.getD i dAp).seen)≥15)<;>simp_all [sW]<;>omega
 ·simp[aO]
 ·rw[bM (fin:=fun v=>(v,())),fold_filterMap];rfl
theorem zE1{s:Se}(id:Int)(h:dH s):(qJZ s id).G (pK s id,()):=by
 unfold qJZ
 refine iU s.conts dCt (fun i (v:List Ct)=>(v,i,())) (fun v a=>.inl (bif a.id != id then v++[a] else v)) (fun v=>({ s with conts:=v },())) (fun i b=>b.length≤i) (fun i b hi hI=>?_) (fun b hI=>?_) (b0:=[]) (cz _) ?_
 ·have h1:=aD hi h.conts
  have h2:=h.conts
  cases hc:(s.conts.getD i dCt).id != id<;>simp_all<;>omega
 ·simp[aO]
 ·refine(bM (fun v a=>bif a.id != id then v++[a] else v) (fun v=>({ s with conts:=v },())) s.conts []).trans ?_
  rw[fold_filter];rfl
def qDc:TB:=con [.rcd 37,.int .i64] [.rcd 53,.bool] (fun a=>bN a.1) (fun a=>((shut aU a.1 a.2.1).1,(shut aU a.1 a.2.1).2,())) rfl
theorem qI8:aJ 113 qDc :=
 row_of eF (L:=qXK) (J:=noL) (by kernel_rfl) rfl rfl fun a h=>Eq.mpr (zIW a.1 a.2.1 _) (by simp only[aK];exact zIZ _ (aM.1 h))
def qDd:TB:=con [.rcd 37,.int .i64] [.rcd 40] (fun a=>bN a.1) (fun a=>(shut qKc a.1 a.2.1,())) rfl
theorem qI9:aJ 375 qDd :=
 row_of eF (L:=qXL) (J:=qXM) (by kernel_rfl) rfl rfl fun a h=>Eq.mpr (zIX a.1 a.2.1 _) (by simp only[aK];exact zJa _ (aM.1 h))
def vL:TB:=con [.rcd 37] [.dat 3] (fun a=>bN a.1) (fun a=>(shut nK a.1,())) rfl
theorem qDe:aJ 130 vL :=
 row_of eF (L:=qMO) (J:=qMP) (by kernel_rfl) rfl rfl fun a h=>Eq.mpr (zAA a.1 _) (by simp only[aK];exact zAB (aM.1 h))
def qHe:TB:=con [.dat 131,.int .i64] [.rcd 131,.bool] (fun a=>sm (List.length a.1)) (fun a=>((shut uU a.1 a.2.1).1,(shut uU a.1 a.2.1).2,())) rfl
theorem qPg:aJ 311 qHe :=
 row_of eF (L:=zEs) (J:=noL) (by kernel_rfl) rfl rfl fun a h=>Eq.mpr (zMy a.1 a.2.1 _) (by simp only[aK];exact zM0 _ (eH.1 h))
def qY:TB:=con [.dat 131,.int .i64] [.rcd 40] (fun a=>sm (List.length a.1)) (fun a=>(shut qF0 a.1 a.2.1,())) rfl
theorem qAK:aJ 387 qY :=
 row_of eF (L:=qJU) (J:=qJV) (by kernel_rfl) rfl rfl fun a h=>Eq.mpr (qUZ a.1 a.2.1 _) (by simp only[aK];exact qVb _ (eH.1 h))
def zS:TB:=con [.rcd 37,.int .i64] [.rcd 40] (fun a=>bN a.1) (fun a=>(shut gB a.1 a.2.1,())) rfl
theorem qF1:aJ 138 zS :=
 row_of eF (L:=qRd) (J:=qRe) (by kernel_rfl) rfl rfl fun a h=>Eq.mpr (zEt a.1 a.2.1 _) (by simp only[aK];exact zE0 _ (aM.1 h))
def qDf:TB:=con [.rcd 37,.int .i64] [.rcd 40] (fun a=>bN a.1) (fun a=>(shut qRj a.1 a.2.1,())) rfl
theorem qIA:aJ 378 qDf :=
 row_of eF (L:=qXN) (J:=qXO) (by kernel_rfl) rfl rfl fun a h=>Eq.mpr (zIY a.1 a.2.1 _) (by simp only[aK];exact zJb _ (aM.1 h))
def zT:TB:=con [.rcd 37,.int .i64] [.rcd 43,.bool] (fun a=>bN a.1) (fun a=>((shut aB a.1 a.2.1).1,(shut aB a.1 a.2.1).2,())) rfl
theorem qF2:aJ 120 zT :=
 row_of eF (L:=qRf) (J:=noL) (by kernel_rfl) rfl rfl fun a h=>Eq.mpr (zEu a.1 a.2.1 _) (by simp only[aK];exact zEy _ (aM.1 h))
def wH:TB:=con [.rcd 37,.int .i64] [.rcd 46,.bool] (fun a=>bN a.1) (fun a=>((shut aL a.1 a.2.1).1,(shut aL a.1 a.2.1).2,())) rfl
theorem qBN:aJ 10 wH :=
 row_of eF (L:=qRg) (J:=noL) (by kernel_rfl) rfl rfl fun a h=>Eq.mpr (zEv a.1 a.2.1 _) (by simp only[aK];exact zEz _ (aM.1 h))
def zU:TB:=con [.rcd 37,.int .i64] [.rcd 37] (fun a=>bN a.1) (fun a=>(shut pK a.1 a.2.1,())) rfl
theorem qF3:aJ 127 zU :=
 row_of eF (L:=qRh) (J:=qRi) (by kernel_rfl) rfl rfl fun a h=>Eq.mpr (zEw a.1 a.2.1 _) (by simp only[aK];exact zE1 _ (aM.1 h))
def qZ:TB:=con [.rcd 37] [.dat 3] (fun a=>bN a.1) (fun a=>(shut zR a.1,())) rfl
theorem qAL:aJ 133 qZ :=
 row_of eF (L:=qKa) (J:=qKb) (by kernel_rfl) rfl rfl fun a h=>Eq.mpr (qVa a.1 _) (by simp only[aK];exact qVc (aM.1 h))
end Go.Proofs.YtlmkakccmpncjaaGreatDoor
namespace Go.Proofs.YtlmkakccmpncjaaGreatDoor
open Sum
open Go Go.W Go.Proofs
open Go.W.DT (ret need br bad loop join)
set_option maxRecDepth 100000
def zE2:=ljT [(2,fun st=>[si 5])]
def zE3:=ljT [(4,fun st=>[si 5]),(5,fun st=>[aS st 6 53 false]),(6,fun st=>[aS st 6 53 false]),(8,fun st=>[si 5])]
def qVd(s:Se)(n:Nd):DT (Se×Unit) :=
 let +zeta h:=s.nodes;let +zeta d:=0;let +zeta c:=(↑h.length:Int);(loop (0,()) fun(p:Int×Unit)=>br (decide (p.1<c)) (need (ixB p.1 c) (br (decide ((h.getD (Int.toNat p.1) dNd).id<n.id)) (ret (inl (w64 (p.1+1),()))) (ret (inr (inl (p.1,())))))) (ret (inr (inl (p.1,()))))).join fun(p:Int×Unit) =>let +zeta l:=p.1;let +zeta f:=Int.toNat l;let +zeta m:=[] ++ @aO Nd d f h;let +zeta j:=d+List.length (@aO Nd d f h);(need (decide (0≤l)&&decide (l≤c)&&true&&true) (need (aT j 64&&true) (need (j.beq m.length) (ret (inl (m,())))))).join fun(q:List Nd×Unit) =>let +zeta e:=q.1.length;let +zeta k:=@bF Nd d e q.1++[n];(need ((d+e).beq e) (need (aT (e+1) 64&&(d+e).ble e) (need ((e+1).beq k.length) (ret (inl (k,())))))).join fun(w:List Nd×Unit) =>let +zeta g:=w.1.length;(br (decide (l<c)) (need (ixB l c) (br ((h.getD f dNd).id==n.id) (ret (inl (w64 (l+1),()))) (ret (inl (l,()))))) (ret (inl (l,())))).join fun(y:Int×Unit) =>let +zeta b:=@bF Nd d g w.1 ++ @aO Nd (Int.toNat y.1) c.toNat h;let +zeta a:=g+List.length (@aO Nd (Int.toNat y.1) c.toNat h);let +zeta i:=(d+a).ble b.length&&true&&true;need (slB y.1 c c) (need ((d+g).beq g) (need (aT a 64&&(d+g).ble g) (need ((d+a).ble b.length&&true) (need i (need i (ret ({s with nodes:=@aO Nd d (d+a) b},())))))))

theorem zM1(s:Se)(n:Nd)(r:(Se×Unit)):(tree hd0 zE2 zE3 114 [.rcd 37,.rcd 53] [.rcd 37] (s,n,())).G r=(qVd s n).G r:=by kernel_rfl
def zE4:=ljT [(5,fun st=>[aS st 6 131 false,.slot 7 (.bool),si 8])]
def zE5:=ljT [(6,fun st=>[aS st 6 131 false,.slot 7 (.bool)]),(9,fun st=>[aS st 6 131 false]),(10,fun st=>[aS st 6 131 false,.slot 7 (.bool)]),(12,fun st=>[aS st 6 131 false,.slot 7 (.bool)]),(14,fun st=>[aS st 6 131 false])]
def qVe(l:List Ak)(x:Ak):DT (List Ak×Int×Unit) :=
 let +zeta m:=0;let +zeta i:=1;let +zeta b:=0;(loop ([],x.count==m,m,()) fun(s:List Ak×Bool×Int×Unit) =>let +zeta j:=Int.toNat s.2.2.1;let +zeta g:=ixB s.2.2.1 (↑l.length:Int);let +zeta a:=s.1.length;let +zeta e:=@bF Ak b a s.1++[Ak.mk x.prio x.label x.size x.count x.node x.rack m];br (decide (s.2.2.1<(↑l.length:Int))) (((br (!s.2.1) (need g (br (decide ((l.getD j dAk).prio>x.prio)) ((need ((b+a).beq a) (need (aT (a+i) 64&&(b+a).ble a) (need ((a+i).beq e.length) (ret (inl (e,())))))).join fun(p:List Ak×Unit)=>need (p.1.length.beq p.1.length) (ret (inl (p.1,true,())))) (need (a.beq a) (ret (inl (s.1,s.2.1,())))))) (need (a.beq a) (ret (inl (s.1,s.2.1,()))))).join fun(p:List Ak×Bool×Unit) =>let +zeta c:=p.1.length;let +zeta h:=@bF Ak b c p.1++[l.getD j dAk];need g (br ((l.getD j dAk).prio != x.prio) (need g (need ((b+c).beq c) (need (aT (c+i) 64&&(b+c).ble c) (need ((c+i).beq h.length) (ret (inl (h,p.2.1,()))))))) (need (c.beq c) (ret (inl (p.1,p.2.1,())))))).join fun(p:List Ak×Bool×Unit)=>need (p.1.length.beq p.1.length) (ret (inl (p.1,p.2.1,w64 (s.2.2.1+1),())))) (need (a.beq a) (ret (inr (inl (s.1,s.2.1,())))))).join fun(s:List Ak×Bool×Unit) =>let +zeta f:=s.1.length;let +zeta d:=@bF Ak b f s.1++[Ak.mk x.prio x.label x.size x.count x.node x.rack m];(br (!s.2.1) (need ((b+f).beq f) (need (aT (f+i) 64&&(b+f).ble f) (need ((f+i).beq d.length) (ret (inl (d,())))))) (need (f.beq f) (ret (inl (s.1,()))))).join fun(p:List Ak×Unit) =>let +zeta k:=p.1.length;br (decide ((↑k:Int)>8)) (ret ([],4,())) (need ((b+k).ble k&&true) (ret (@aO Ak b (b+k) p.1,m,())))

theorem zM2(l:List Ak)(x:Ak)(r:(List Ak×Int×Unit)):(tree hd0 zE4 zE5 209 [.dat 131,.rcd 131] [.dat 131,.int .i64] (l,x,())).G r=(qVe l x).G r:=by kernel_rfl
def qXP:=ljT [(4,fun st=>[.slot 7 (.bool),aS st 6 131 false,si 8])]
def qXQ:=ljT [(5,fun st=>[.slot 7 (.bool),aS st 6 131 false]),(11,fun st=>[.slot 7 (.bool)]++bK st 9 [.rcd 131])]
def qPh(l:List Ak)(prio:Int):DT (List Ak×Bool×Unit) :=
 let +zeta c:=0;loop (false,[],0,()) fun(s:Bool×List Ak×Int×Unit) =>let +zeta e:=s.2.2.1;let +zeta b:=s.2.1.length;let +zeta a:=l.getD (Int.toNat e) dAk;br (decide (e<(↑l.length:Int))) ((need (ixB e (↑l.length:Int)) ((br (a.prio==prio) (br (decide (w64 (a.count-1)≤0)) (need (b.beq b) (ret (inr (inl (true,s.2.1,()))))) (ret (inl (true,({a with count:=w64 (a.count-1),missed:=0},()),())))) (ret (inl (s.1,(l.getD (Int.toNat e) dAk,()),())))).join fun(p:Bool×(Ak×Unit)×Unit) =>let +zeta d:=@bF Ak c b s.2.1++[p.2.1.1];need ((c+b).beq b) (need (aT (b+1) 64&&(c+b).ble b) (need ((b+1).beq d.length) (ret (inl (p.1,d,()))))))).join fun(p:Bool×List Ak×Unit)=>need (p.2.1.length.beq p.2.1.length) (ret (inl (p.1,p.2.1,w64 (e+1),())))) (need ((c+b).ble b&&true) (ret (inr (@aO Ak c (c+b) s.2.1,s.1,()))))

theorem zJc(l:List Ak)(prio:Int)(r:(List Ak×Bool×Unit)):(tree hd0 qXP qXQ 379 [.dat 131,.int .i64] [.dat 131,.bool] (l,prio,())).G r=(qPh l prio).G r:=by kernel_rfl
def qXR:=ljT [(2,fun st=>[si 5])]
def qXS:=ljT [(4,fun st=>[si 5]),(5,fun st=>[aS st 6 43 false]),(6,fun st=>[aS st 6 43 false]),(8,fun st=>[si 5])]
def qPi(s:Se)(x:Ap):DT (Se×Unit) :=
 let +zeta j:=s.apps;let +zeta d:=0;let +zeta c:=(↑j.length:Int);(loop (0,()) fun(p:Int×Unit)=>br (decide (p.1<c)) (need (ixB p.1 c) (br (decide ((j.getD (Int.toNat p.1) dAp).id<x.id)) (ret (inl (w64 (p.1+1),()))) (ret (inr (inl (p.1,())))))) (ret (inr (inl (p.1,()))))).join fun(p:Int×Unit) =>let +zeta l:=p.1;let +zeta f:=Int.toNat l;let +zeta m:=[] ++ @aO Ap d f j;let +zeta h:=d+List.length (@aO Ap d f j);(need (decide (0≤l)&&decide (l≤c)&&true&&true) (need (aT h 200&&true) (need (h.beq m.length) (ret (inl (m,())))))).join fun(q:List Ap×Unit) =>let +zeta e:=q.1.length;let +zeta k:=@bF Ap d e q.1++[x];(need ((d+e).beq e) (need (aT (e+1) 200&&(d+e).ble e) (need ((e+1).beq k.length) (ret (inl (k,())))))).join fun(w:List Ap×Unit) =>let +zeta g:=w.1.length;(br (decide (l<c)) (need (ixB l c) (br ((j.getD f dAp).id==x.id) (ret (inl (w64 (l+1),()))) (ret (inl (l,()))))) (ret (inl (l,())))).join fun(y:Int×Unit) =>let +zeta b:=@bF Ap d g w.1 ++ @aO Ap (Int.toNat y.1) c.toNat j;let +zeta a:=g+List.length (@aO Ap (Int.toNat y.1) c.toNat j);let +zeta i:=(d+a).ble b.length&&true&&true;need (slB y.1 c c) (need ((d+g).beq g) (need (aT a 200&&(d+g).ble g) (need ((d+a).ble b.length&&true) (need i (need i (ret ({s with apps:=@aO Ap d (d+a) b},())))))))

theorem zJd(s:Se)(x:Ap)(r:(Se×Unit)):(tree hd0 qXR qXS 122 [.rcd 37,.rcd 43] [.rcd 37] (s,x,())).G r=(qPi s x).G r:=by kernel_rfl
def qKd:=ljT [(4,fun st=>[.slot 4 (.bool),aS st 3 43 false,si 5])]
def qKe:=ljT [(5,fun st=>[.slot 4 (.bool),aS st 3 43 false])]
def qEy(s:Se):DT (Se×Unit) :=
 let +zeta j:=(↑s.apps.length:Int);loop (false,[],0,()) fun(p:Bool×List Ap×Int×Unit) =>let +zeta h:=p.2;let +zeta g:=Int.toNat h.2.1;let +zeta d:=ixB h.2.1 j;let +zeta b:=h.1.length;let +zeta c:=0+b;let +zeta i:=c.ble b&&true&&true;let +zeta e:=aT (b+1) 200&&c.ble b;let +zeta a:=@bF Ap 0 b h.1++[s.apps.getD g dAp];let +zeta f:=(b+1).beq a.length;br (decide (h.2.1<j)) ((br (!p.1) (need d (br ((s.apps.getD g dAp).state==1) (need d (need (c.beq b) (need e (need f (ret (inl (p.1,a,()))))))) (br (!(s.apps.getD g dAp).state==2) (need (b.beq b) (ret (inl (true,h.1,())))) (need d (need (c.beq b) (need e (need f (ret (inl (p.1,a,())))))))))) (need d (need (c.beq b) (need e (need f (ret (inl (p.1,a,())))))))).join fun(q:Bool×List Ap×Unit)=>need (q.2.1.length.beq q.2.1.length) (ret (inl (q.1,q.2.1,w64 (h.2.1+1),())))) (need (c.ble b&&true) (need i (need i (ret (inr ({s with apps:=@aO Ap 0 c h.1},()))))))

theorem qVf(s:Se)(r:(Se×Unit)):(tree hd0 qKd qKe 121 [.rcd 37] [.rcd 37] (s,())).G r=(qEy s).G r:=by kernel_rfl
def qRk:=ljT [(5,fun st=>[aS st 8 3 false,aS st 6 46 false,si 9]),(11,fun st=>[aS st 7 91 false,si 10])]
def qRl:=ljT [(6,fun st=>[aS st 8 3 false,aS st 6 46 false]),(10,fun st=>[aS st 8 3 false,aS st 6 46 false]),(12,fun st=>[aS st 7 91 false])]
def qKf(s:Se)(id:Int):DT (Se×List Int×Unit) :=
 let +zeta r:=s.conts;let +zeta m:=1;let +zeta l:=(↑s.slots.length:Int);let +zeta a:=0;(loop ([],[],0,()) fun(p:List Int×List Ct×Int×Unit) =>let +zeta o:=p.2;let +zeta g:=ixB o.2.1 (↑r.length:Int);let +zeta f:=Int.toNat o.2.1;let +zeta d:=p.1.length;let +zeta j:=@bF Int a d p.1++[(r.getD f dCt).id];let +zeta c:=o.1.length;let +zeta k:=@bF Ct a c o.1++[r.getD f dCt];br (decide (o.2.1<(↑r.length:Int))) ((need g (br ((r.getD f dCt).app==id) (need g (need ((a+d).beq d) (need (aT (d+m) 8&&(a+d).ble d) (need ((d+m).beq j.length&&c.beq c) (ret (inl (j,o.1,()))))))) (need g (need ((a+c).beq c) (need (aT (c+m) 72&&(a+c).ble c) (need (d.beq d&&(c+m).beq k.length) (ret (inl (p.1,k,()))))))))).join fun(w:List Int×List Ct×Unit)=>need (w.1.length.beq w.1.length&&w.2.1.length.beq w.2.1.length) (ret (inl (w.1,w.2.1,w64 (o.2.1+1),())))) (need (d.beq d&&c.beq c) (ret (inr (inl (p.1,o.1,())))))).join fun(p:List Int×List Ct×Unit) =>let +zeta t:=p.1.length;let +zeta q:=p.2.1.length;let +zeta e:=(a+q).ble q&&true&&true;loop ([],0,()) fun(w:List Sl×Int×Unit) =>let +zeta n:=w.2.1;let +zeta b:=w.1.length;let +zeta i:=(a+b).ble b&&true&&true;let +zeta h:=@bF Sl a b w.1++[s.slots.getD (Int.toNat n) dSl];br (decide (n<l)) ((need (ixB n l) (br ((s.slots.getD (Int.toNat n) dSl).app != id) (need (ixB n l) (need ((a+b).beq b) (need (aT (b+m) 24&&(a+b).ble b) (need ((b+m).beq h.length) (ret (inl (h,()))))))) (need (b.beq b) (ret (inl (w.1,())))))).join fun(y:List Sl×Unit)=>need (y.1.length.beq y.1.length) (ret (inl (y.1,w64 (n+1),())))) (need e (need e (need e (need ((a+t).ble t&&true) (need i (need i (need i (ret (inr ({s with conts:=@aO Ct a (a+q) p.2.1,slots:=@aO Sl a (a+b) w.1},@aO Int a (a+t) p.1,()))))))))))

theorem zE6(s:Se)(id:Int)(r:(Se×List Int×Unit)):(tree hd0 qRk qRl 206 [.rcd 37,.int .i64] [.rcd 37,.dat 3] (s,id,())).G r=(qKf s id).G r:=by kernel_rfl
def qHV:=ljT [(3,fun st=>[aS st 6 3 false,si 7])]
def qHW:=ljT [(4,fun st=>[aS st 6 3 false])]
def qBO(l:List Int)(n:Int):DT (List Int×Bool×Unit) :=
 let +zeta c:=(↑l.length:Int);loop ([],0,()) fun(s:List Int×Int×Unit) =>let +zeta a:=s.1.length;let +zeta d:=0+a;let +zeta b:=@bF Int 0 a s.1++[l.getD (Int.toNat s.2.1) 0];br (decide (s.2.1<c)) ((need (ixB s.2.1 c) (br (l.getD (Int.toNat s.2.1) 0 != n) (need (ixB s.2.1 c) (need (d.beq a) (need (aT (a+1) 8&&d.ble a) (need ((a+1).beq b.length) (ret (inl (b,()))))))) (need (a.beq a) (ret (inl (s.1,())))))).join fun(p:List Int×Unit)=>need (p.1.length.beq p.1.length) (ret (inl (p.1,w64 (s.2.1+1),())))) (need (d.ble a&&true) (ret (inr (@aO Int 0 d s.1,decide ((↑a:Int)<c),()))))

theorem qRm(l:List Int)(n:Int)(r:(List Int×Bool×Unit)):(tree hd0 qHV qHW 128 [.dat 3,.int .i64] [.dat 3,.bool] (l,n,())).G r=(qBO l n).G r:=by kernel_rfl
def qRn:=ljT [(2,fun st=>[si 3])]
def qRo:=ljT [(4,fun st=>[si 3])]
def qKg(path:B):DT (B×Unit) :=
 let +zeta b:=0;let +zeta a:=(↑(path.length):Int);(loop (w64 (a-1),()) fun(s:Int×Unit)=>br (decide (s.1≥b)) (need (decide (b≤s.1)&&decide (s.1<a)) (br ((↑(List.getD path (Int.toNat s.1) (0)).toNat:Int) != 46) (ret (inl (w64 (s.1-1),()))) (ret (inr (inl (s.1,())))))) (ret (inr (inl (s.1,()))))).join fun(s:Int×Unit)=>br (decide (s.1<b)) (ret ([],())) (need (decide (b≤s.1)&&decide (s.1≤a)) (ret (@aO UInt8 0 (Int.toNat s.1) path,())))

theorem zE7(path:B)(r:(List UInt8×Unit)):(tree hd0 qRn qRo 139 [.str] [.str] (path,())).G r=(qKg path).G r:=by kernel_rfl
def qKh:=ljT [(3,fun st=>[aS st 5 91 false,si 6])]
def qKi:=ljT [(4,fun st=>[aS st 5 91 false])]
def qEz(s:Se)(node:Int):DT (Se×Unit) :=
 let +zeta d:=(↑s.slots.length:Int);loop ([],0,()) fun(p:List Sl×Int×Unit) =>let +zeta e:=p.2.1;let +zeta a:=p.1.length;let +zeta c:=0+a;let +zeta f:=c.ble a&&true&&true;let +zeta b:=@bF Sl 0 a p.1++[s.slots.getD (Int.toNat e) dSl];br (decide (e<d)) ((need (ixB e d) (br ((s.slots.getD (Int.toNat e) dSl).node != node) (need (ixB e d) (need (c.beq a) (need (aT (a+1) 24&&c.ble a) (need ((a+1).beq b.length) (ret (inl (b,()))))))) (need (a.beq a) (ret (inl (p.1,())))))).join fun(q:List Sl×Unit)=>need (q.1.length.beq q.1.length) (ret (inl (q.1,w64 (e+1),())))) (need (c.ble a&&true) (need f (need f (ret (inr ({s with slots:=@aO Sl 0 c p.1},()))))))

theorem qVg(s:Se)(node:Int)(r:(Se×Unit)):(tree hd0 qKh qKi 131 [.rcd 37,.int .i64] [.rcd 37] (s,node,())).G r=(qEz s node).G r:=by kernel_rfl
def qRp:=ljT [(2,fun st=>[si 6])]
def qKj(s:Se)(node:Int):DT (Sl×Bool×Unit) :=
 let +zeta a:=(↑s.slots.length:Int);loop (0,()) fun(p:Int×Unit) =>let +zeta b:=s.slots.getD (Int.toNat p.1) dSl;br (decide (p.1<a)) (need (ixB p.1 a) (br (b.node==node) (need (ixB p.1 a) (ret (inr (b,true,())))) (ret (inl (w64 (p.1+1),()))))) (ret (inr (dSl,false,())))

theorem zE8(s:Se)(node:Int)(r:(Sl×Bool×Unit)):(tree hd0 qRp noL 264 [.rcd 37,.int .i64] [.rcd 91,.bool] (s,node,())).G r=(qKj s node).G r:=by kernel_rfl
def qMQ:=ljT [(2,fun st=>[si 7])]
def qHf(s:Se)(app:Int)(prio:Int):DT (Bool×Unit) :=
 let +zeta a:=(↑s.slots.length:Int);loop (0,()) fun(p:Int×Unit) =>let +zeta c:=w64 (p.1+1);let +zeta b:=s.slots.getD (Int.toNat p.1) dSl;br (decide (p.1<a)) (need (ixB p.1 a) (br (b.app==app) (need (ixB p.1 a) (br (b.prio==prio) (ret (inr (true,()))) (ret (inl (c,()))))) (ret (inl (c,()))))) (ret (inr (false,())))

theorem zAC(s:Se)(app:Int)(prio:Int)(r:(Bool×Unit)):(tree hd0 qMQ noL 382 [.rcd 37,.int .i64,.int .i64] [.bool] (s,app,prio,())).G r=(qHf s app prio).G r:=by kernel_rfl
def qRq:=ljT [(2,fun st=>[si 5])]
def qRr:=ljT [(4,fun st=>[si 5]),(5,fun st=>[aS st 6 91 false]),(6,fun st=>[aS st 6 91 false])]
def qKk(s:Se)(x:Sl):DT (Se×Unit) :=
 let +zeta h:=s.slots;let +zeta d:=0;let +zeta c:=(↑h.length:Int);(loop (0,()) fun(p:Int×Unit)=>br (decide (p.1<c)) (need (ixB p.1 c) (br (decide ((h.getD (Int.toNat p.1) dSl).node<x.node)) (ret (inl (w64 (p.1+1),()))) (ret (inr (inl (p.1,())))))) (ret (inr (inl (p.1,()))))).join fun(p:Int×Unit) =>let +zeta e:=Int.toNat p.1;let +zeta l:=[] ++ @aO Sl d e h;let +zeta j:=d+List.length (@aO Sl d e h);(need (decide (0≤p.1)&&decide (p.1≤c)&&true&&true) (need (aT j 24&&true) (need (j.beq l.length) (ret (inl (l,())))))).join fun(q:List Sl×Unit) =>let +zeta f:=q.1.length;let +zeta k:=@bF Sl d f q.1++[x];(need ((d+f).beq f) (need (aT (f+1) 24&&(d+f).ble f) (need ((f+1).beq k.length) (ret (inl (k,())))))).join fun(w:List Sl×Unit) =>let +zeta g:=w.1.length;let +zeta b:=@bF Sl d g w.1 ++ @aO Sl e c.toNat h;let +zeta a:=g+List.length (@aO Sl e c.toNat h);let +zeta i:=(d+a).ble b.length&&true&&true;need (slB p.1 c c) (need ((d+g).beq g) (need (aT a 24&&(d+g).ble g) (need ((d+a).ble b.length&&true) (need i (need i (ret ({s with slots:=@aO Sl d (d+a) b},())))))))

theorem zE9(s:Se)(x:Sl)(r:(Se×Unit)):(tree hd0 qRq qRr 383 [.rcd 37,.rcd 91] [.rcd 37] (s,x,())).G r=(qKk s x).G r:=by kernel_rfl
def zEA:=ljT [(3,fun st=>[si 8]++bK st 7 [.rcd 40])]
def zEB:=ljT [(4,fun st=>bK st 7 [.rcd 40])]
def qVh(l:List Pn)(label:Int)(t:Int):DT (Vec×Unit) :=
 loop (0,(gQ,()),()) fun(s:Int×(Vec×Unit)×Unit) =>let +zeta c:=s.2.1.1;let +zeta b:=ixB s.1 (↑l.length:Int);let +zeta a:=l.getD (Int.toNat s.1) dPn;br (decide (s.1<(↑l.length:Int))) ((need b (br (a.label==label) (need b (br (decide (a.start≤t)) (need b (br (decide (t<a.stop)) (need b (ret (inl ((Vec.mk (w64 (c.mem+a.need.mem)) (w64 (c.cores+a.need.cores)),()),())))) (ret (inl ((c,()),()))))) (ret (inl ((c,()),()))))) (ret (inl ((c,()),()))))).join fun(p:(Vec×Unit)×Unit)=>ret (inl (w64 (s.1+1),(p.1.1,()),()))) (ret (inr (c,())))

theorem zM3(l:List Pn)(label:Int)(t:Int)(r:(Vec×Unit)):(tree hd0 zEA zEB 277 [.dat 55,.int .i64,.int .i64] [.rcd 40] (l,label,t,())).G r=(qVh l label t).G r:=by kernel_rfl
def zEC:=ljT [(2,fun st=>[si 5])]
def qVi(l:List Int)(n:Int):DT (Bool×Unit) :=
 loop (0,()) fun(s:Int×Unit)=>br (decide (s.1<(↑l.length:Int))) (need (ixB s.1 (↑l.length:Int)) (br (l.getD (Int.toNat s.1) 0==n) (ret (inr (true,()))) (ret (inl (w64 (s.1+1),()))))) (ret (inr (false,())))

theorem zM4(l:List Int)(n:Int)(r:(Bool×Unit)):(tree hd0 zEC noL 325 [.dat 3,.int .i64] [.bool] (l,n,())).G r=(qVi l n).G r:=by kernel_rfl
def zED:=ljT [(3,fun st=>[aS st 5 3 false,si 6])]
def zEE:=ljT [(4,fun st=>[aS st 5 3 false])]
def qVj(s:Se)(node:Int):DT (List Int×Unit) :=
 let +zeta c:=(↑s.conts.length:Int);loop ([],0,()) fun(p:List Int×Int×Unit) =>let +zeta f:=p.2.1;let +zeta e:=s.conts.getD (Int.toNat f) dCt;let +zeta a:=p.1.length;let +zeta d:=0+a;let +zeta b:=@bF Int 0 a p.1++[e.id];br (decide (f<c)) ((need (ixB f c) (br (e.node==node) (need (ixB f c) (need (d.beq a) (need (aT (a+1) 8&&d.ble a) (need ((a+1).beq b.length) (ret (inl (b,()))))))) (need (a.beq a) (ret (inl (p.1,())))))).join fun(q:List Int×Unit)=>need (q.1.length.beq q.1.length) (ret (inl (q.1,w64 (f+1),())))) (need (d.ble a) (ret (inr (@aO Int 0 d p.1,()))))

theorem zM5(s:Se)(node:Int)(r:(List Int×Unit)):(tree hd0 zED zEE 115 [.rcd 37,.int .i64] [.dat 3] (s,node,())).G r=(qVj s node).G r:=by kernel_rfl
def qHX:=ljT [(3,fun st=>[aS st 5 3 false,si 6])]
def qHY:=ljT [(4,fun st=>[aS st 5 3 false])]
def qBP(s:Se)(app:Int):DT (List Int×Unit) :=
 let +zeta f:=(↑s.conts.length:Int);let +zeta d:=0;loop ([],0,()) fun(p:List Int×Int×Unit) =>let +zeta c:=ixB p.2.1 f;let +zeta b:=s.conts.getD (Int.toNat p.2.1) dCt;let +zeta a:=p.1.length;let +zeta e:=@bF Int d a p.1++[b.id];br (decide (p.2.1<f)) ((need c (br (b.app==app) (need c (br (b.notice != 0) (need c (need ((d+a).beq a) (need (aT (a+1) 8&&(d+a).ble a) (need ((a+1).beq e.length) (ret (inl (e,()))))))) (need (a.beq a) (ret (inl (p.1,())))))) (need (a.beq a) (ret (inl (p.1,())))))).join fun(q:List Int×Unit)=>need (q.1.length.beq q.1.length) (ret (inl (q.1,w64 (p.2.1+1),())))) (need ((d+a).ble a) (ret (inr (@aO Int d (d+a) p.1,()))))

theorem qRs(s:Se)(app:Int)(r:(List Int×Unit)):(tree hd0 qHX qHY 125 [.rcd 37,.int .i64] [.dat 3] (s,app,())).G r=(qBP s app).G r:=by kernel_rfl
def qRt:=ljT [(2,fun st=>[si 5])]
def qKl(s:Se)(app:Int):DT (Int×Unit) :=
 let +zeta c:=(↑s.conts.length:Int);loop (0,()) fun(p:Int×Unit) =>let +zeta d:=w64 (p.1+1);let +zeta b:=ixB p.1 c;let +zeta a:=s.conts.getD (Int.toNat p.1) dCt;br (decide (p.1<c)) (need b (br (a.app==app) (need b (br a.master (need b (ret (inr (a.id,())))) (ret (inl (d,()))))) (ret (inl (d,()))))) (ret (inr ((-1:Int),())))

theorem zEF(s:Se)(app:Int)(r:(Int×Unit)):(tree hd0 qRt noL 134 [.rcd 37,.int .i64] [.int .i64] (s,app,())).G r=(qKl s app).G r:=by kernel_rfl
end Go.Proofs.YtlmkakccmpncjaaGreatDoor
