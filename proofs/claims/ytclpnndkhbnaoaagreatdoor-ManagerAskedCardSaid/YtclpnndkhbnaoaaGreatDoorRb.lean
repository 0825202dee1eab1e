/- Part of the proof: texts Rc Rd Re Rf Rg Rh. No conditions. -/
import Derived.Test.YtclpnndkhbnaoaaGreatDoorRa
set_option linter.all false
noncomputable section
namespace Go.Proofs.YtclpnndkhbnaoaaGreatDoor
open Go Go.W Go.Proofs
set_option maxRecDepth 100000
def sm(n:Nat):Bool:=Nat.ble n 1000000000
theorem qKP{n:Nat}:sm n=true↔n≤1000000000:=qS5
def qMJ(a:Ap):Bool:=sm a.asks.length&&sm a.grants.length&&sm a.kills.length&&sm a.told.length&&sm a.lost.length&&sm a.queue.length
def qRh(q:Qu):Bool:=sm q.caps.length&&sm q.path.length
def iO(s:Se):Bool:=sm s.nodes.length&&sm s.apps.length&&sm s.conts.length&&sm s.slots.length&&sm s.plans.length&&sm s.conf.labels.length&&sm s.conf.queues.length&&s.apps.all qMJ&&s.conf.queues.all qRh&&s.conf.labels.all fun l=>sm l.length
structure qIU(a:Ap):Prop where
 asks:a.asks.length≤1000000000
 grants:a.grants.length≤1000000000
 kills:a.kills.length≤1000000000
 told:a.told.length≤1000000000
 lost:a.lost.length≤1000000000
 queue:a.queue.length≤1000000000
theorem qEJ{a:Ap}:qMJ a=true↔qIU a:=by
 simp only[qMJ,bu,qKP]
 exact⟨fun⟨⟨⟨⟨⟨h1,h2⟩,h3⟩,h4⟩,h5⟩,h6⟩=>⟨h1,h2,h3,h4,h5,h6⟩,fun⟨h1,h2,h3,h4,h5,h6⟩=>⟨⟨⟨⟨⟨h1,h2⟩,h3⟩,h4⟩,h5⟩,h6⟩⟩
structure rY(s:Se):Prop where
 nodes:s.nodes.length≤1000000000
 apps:s.apps.length≤1000000000
 conts:s.conts.length≤1000000000
 slots:s.slots.length≤1000000000
 plans:s.plans.length≤1000000000
 labels:s.conf.labels.length≤1000000000
 queues:s.conf.queues.length≤1000000000
 app:∀a∈s.apps,qIU a
 qu:∀q∈s.conf.queues,q.caps.length≤1000000000∧q.path.length≤1000000000
 lab:∀l∈s.conf.labels,l.length≤1000000000
theorem iP{s:Se}:iO s=true↔rY s:=by
 simp only[iO,qRh,bu,qKP,ek,qEJ]
 exact⟨fun⟨⟨⟨⟨⟨⟨⟨⟨⟨h1,h2⟩,h3⟩,h4⟩,h5⟩,h6⟩,h7⟩,h8⟩,h9⟩,h10⟩=>⟨h1,h2,h3,h4,h5,h6,h7,h8,h9,h10⟩,fun⟨h1,h2,h3,h4,h5,h6,h7,h8,h9,h10⟩=>⟨⟨⟨⟨⟨⟨⟨⟨⟨h1,h2⟩,h3⟩,h4⟩,h5⟩,h6⟩,h7⟩,h8⟩,h9⟩,h10⟩⟩
theorem qD{n:Int}(h1 : -9223372036854775808≤n)(h2:n≤9223372036854775807):w64 n=n:=IntWalk.i64_in _ ⟨h1,h2⟩
theorem dW{i n:Nat}(h:i<n)(hn:n≤1000000000):w64 ((i:Int)+1)=((i+1:Nat):Int):=by rw[qD]<;>omega
def shut{α:Type}(f:α):α:=Classical.choose (⟨f,rfl⟩:∃g:α,g=f)
theorem qHq{α:Type}(f:α):shut f=f:=nk (⟨f,rfl⟩:∃g:α,g=f)
def qEK(a b:Vec):Vec:=⟨w64 (a.mem+b.mem),w64 (a.cores+b.cores)⟩
def findD{α:Type}(d:α)(p:α→Bool)(l:List α):α×Bool:=match l.find? p with | some a=>(a,true) | none=>(d,false)
def qOq(s:Se)(id:Int):Nd×Bool:=findD dNd (fun n=>n.id==id) s.nodes
def qRi(s:Se)(id:Int):Vec:=s.conts.foldl (fun v c=>bif c.node==id then qEK v c.size else v) zA
def qMK(s:Se):List Int:=s.nodes.filterMap fun n=>bif n.up&&decide (w64 (s.now-n.seen)≥10) then some n.id else none
def qRj(l:List Ak)(prio:Int):Ak×Bool:=findD dAk (fun a=>a.prio==prio) l
def qKQ(l:List Ak)(label:Int):Vec:=l.foldl (fun v a=>bif a.label==label then qEK v ⟨w64 (a.size.mem*a.count),w64 (a.size.cores*a.count)⟩ else v) zA
def qPj(s:Se)(label:Int):Vec:=s.nodes.foldl (fun v n=>bif n.up&&n.label==label then qEK v n.cap else v) zA
def qRk(s:Se)(label:Int):Vec:=s.plans.foldl (fun v p=>bif p.label==label&&decide (p.start≤s.now)&&decide (s.now<p.stop) then qEK v p.need else v) zA
def rZ(s:Se)(id:Int):Ap×Bool:=findD dAp (fun a=>a.id==id) s.apps
def qKR(s:Se)(id:Int):Ct×Bool:=findD dCt (fun c=>c.id==id) s.conts
def qGl(s:Se)(id:Int):Se:={ s with conts:=s.conts.filter fun c=>c.id != id }
def qKS(s:Se):List Int:=s.apps.filterMap fun a=>bif a.state==2&&decide (w64 (s.now-a.seen)≥15) then some a.id else none
theorem fD{α ρ:Type}(p:α→Bool)(g:α→Bool→ρ)(d:α)(l:List α):scan (fun(_:Unit) a=>bif p a then .inr (g a true) else .inl ()) (fun _=>g d false) l ()=g (findD d p l).1 (findD d p l).2:=by
 rw[qCJ p (fun a=>g a true) (g d false)]
 unfold findD
 cases l.find? p<;>rfl
theorem qKT{s:Se}(id:Int)(h:rY s):(qB5 s id).G ((rZ s id).1,(rZ s id).2,()):=by
 unfold qB5
 refine qOo s.apps dAp (fun i (_:Unit)=>(i,())) (fun _ a=>bif a.id==id then .inr (a,true,()) else .inl ()) (fun _=>(dAp,false,())) (fun _ _=>True) (fun i b hi _=>?_) (fun b _=>?_) (b0:=()) trivial (fD _ (fun a b=>(a,b,())) dAp _)
 ·have h1:=dW hi h.apps
  cases hc:(s.apps.getD i dAp).id==id<;>simp_all
 ·simp
def qHr:TB:=con [.rcd 36,.int .i64] [.rcd 41,.bool] (fun a=>iO a.1) (fun a=>((shut qOq a.1 a.2.1).1,(shut qOq a.1 a.2.1).2,())) rfl
def qHs:TB:=con [.rcd 36,.int .i64] [.rcd 25] (fun a=>iO a.1) (fun a=>(shut qRi a.1 a.2.1,())) rfl
def qCL:TB:=con [.rcd 36] [.dat 3] (fun a=>iO a.1) (fun a=>(shut qMK a.1,())) rfl
def qKU:TB:=con [.dat 51,.int .i64] [.rcd 51,.bool] (fun a=>sm (List.length a.1)) (fun a=>((shut qRj a.1 a.2.1).1,(shut qRj a.1 a.2.1).2,())) rfl
def qB6:TB:=con [.dat 51,.int .i64] [.rcd 25] (fun a=>sm (List.length a.1)) (fun a=>(shut qKQ a.1 a.2.1,())) rfl
def qEL:TB:=con [.rcd 36,.int .i64] [.rcd 25] (fun a=>iO a.1) (fun a=>(shut qPj a.1 a.2.1,())) rfl
def qHt:TB:=con [.rcd 36,.int .i64] [.rcd 25] (fun a=>iO a.1) (fun a=>(shut qRk a.1 a.2.1,())) rfl
def xK:TB:=con [.rcd 36,.int .i64] [.rcd 44,.bool] (fun a=>iO a.1) (fun a=>((shut rZ a.1 a.2.1).1,(shut rZ a.1 a.2.1).2,())) rfl
theorem qKV:aN 9 xK :=
 row_of qKN (L:=qEI) (J:=noL) (by kernel_rfl) rfl rfl fun a h=>Eq.mpr (qKO a.1 a.2.1 _) (by simp only[qHq];exact qKT _ (iP.1 h))
def qEM:TB:=con [.rcd 36,.int .i64] [.rcd 80,.bool] (fun a=>iO a.1) (fun a=>((shut qKR a.1 a.2.1).1,(shut qKR a.1 a.2.1).2,())) rfl
def qEN:TB:=con [.rcd 36,.int .i64] [.rcd 36] (fun a=>iO a.1) (fun a=>(shut qGl a.1 a.2.1,())) rfl
def qB7:TB:=con [.rcd 36] [.dat 3] (fun a=>iO a.1) (fun a=>(shut qKS a.1,())) rfl
end Go.Proofs.YtclpnndkhbnaoaaGreatDoor
namespace Go.Proofs.YtclpnndkhbnaoaaGreatDoor
open Go Go.W Go.Proofs
open Go.W.DT (ret need br bad loop join)
set_option maxRecDepth 100000
end Go.Proofs.YtclpnndkhbnaoaaGreatDoor
namespace Go.Proofs.YtclpnndkhbnaoaaGreatDoor
open Go Go.W Go.Proofs
set_option maxRecDepth 100000
def qB8{α:Type}(key:α→Int)(x:α):List α→List α
 | []=>[]
 | a::r=>bif key a==key x then r else a::r
def xL{α:Type}(key:α→Int)(x:α)(l:List α):List α :=
 let k:=(l.takeWhile fun a=>decide (key a<key x)).length
 (l.take k++[x])++qB8 key x (l.drop k)
def qS7{α:Type}(key:α→Int)(x:α)(l:List α):List α :=
 let k:=(l.takeWhile fun a=>decide (key a<key x)).length
 (l.take k++[x])++l.drop k
def qKW(s:Se)(n:Nd):Se:={ s with nodes:=xL (·.id) n s.nodes }
def qEO(s:Se)(x:Ap):Se:={ s with apps:=xL (·.id) x s.apps }
def qPk(s:Se)(x:Sl):Se:={ s with slots:=qS7 (·.node) x s.slots }
def qCM(l:List Int)(n:Int):List Int×Bool:=let v:=l.filter fun a=>a != n;(v,decide ((v.length:Int)<l.length))
def oG(s:Se)(node:Int):Se:={ s with slots:=s.slots.filter fun a=>a.node != node }
def qKX(s:Se)(node:Int):Sl×Bool:=findD dSl (fun a=>a.node==node) s.slots
def qML(s:Se)(app prio:Int):Bool:=s.slots.any fun a=>a.app==app&&a.prio==prio
def qS8(l:List Pn)(label t:Int):Vec:=l.foldl (fun v a=>bif a.label==label&&decide (a.start≤t)&&decide (t<a.stop) then qEK v a.need else v) zA
def qS9(l:List Int)(n:Int):Bool:=l.any fun a=>a==n
def qSA(s:Se)(node:Int):List Int:=s.conts.filterMap fun a=>bif a.node==node then some a.id else none
def qIV(s:Se)(app:Int):List Int:=s.conts.filterMap fun a=>bif a.app==app&&a.notice != 0 then some a.id else none
def qPl(s:Se)(app:Int):Int:=match s.conts.find? fun a=>a.app==app&&a.master with | some a=>a.id | none=>-1
def qKY:TB:=con [.rcd 36,.rcd 41] [.rcd 36] (fun a=>iO a.1) (fun a=>(shut qKW a.1 a.2.1,())) rfl
def qHu:TB:=con [.rcd 36,.rcd 44] [.rcd 36] (fun a=>iO a.1) (fun a=>(shut qEO a.1 a.2.1,())) rfl
def qEP:TB:=con [.rcd 36,.rcd 83] [.rcd 36] (fun a=>iO a.1) (fun a=>(shut qPk a.1 a.2.1,())) rfl
def qB9:TB:=con [.rcd 36,.int .i64] [.rcd 36] (fun a=>iO a.1) (fun a=>(shut oG a.1 a.2.1,())) rfl
def qEQ:TB:=con [.rcd 36,.int .i64] [.rcd 83,.bool] (fun a=>iO a.1) (fun a=>((shut qKX a.1 a.2.1).1,(shut qKX a.1 a.2.1).2,())) rfl
def qCN:TB:=con [.rcd 36,.int .i64,.int .i64] [.bool] (fun a=>iO a.1) (fun a=>(shut qML a.1 a.2.1 a.2.2.1,())) rfl
def qKZ:TB:=con [.rcd 36,.int .i64] [.dat 3] (fun a=>iO a.1) (fun a=>(shut qSA a.1 a.2.1,())) rfl
def qAj:TB:=con [.rcd 36,.int .i64] [.dat 3] (fun a=>iO a.1) (fun a=>(shut qIV a.1 a.2.1,())) rfl
def qER:TB:=con [.rcd 36,.int .i64] [.int .i64] (fun a=>iO a.1) (fun a=>(shut qPl a.1 a.2.1,())) rfl
def qLa:TB:=con [.dat 3,.int .i64] [.bool] (fun a=>sm (List.length a.1)) (fun a=>(shut qS9 a.1 a.2.1,())) rfl
def qAk:TB:=con [.dat 3,.int .i64] [.dat 3,.bool] (fun a=>sm (List.length a.1)) (fun a=>((shut qCM a.1 a.2.1).1,(shut qCM a.1 a.2.1).2,())) rfl
def qLb:TB:=con [.dat 46,.int .i64,.int .i64] [.rcd 25] (fun a=>sm (List.length a.1)) (fun a=>(shut qS8 a.1 a.2.1 a.2.2.1,())) rfl
def K1:Con aC.T:=fun f=>aQ [(99001,qHr),(99002,qHs),(99003,qCL),(99004,qKU),(99005,qB6),(99006,qEL),(99007,qHt),(9,xK),(99008,qEM),(99009,qEN),(99010,qB7),(99011,qKY),(99012,qHu),(99013,qEP),(99014,qB9),(99015,qEQ),(99016,qCN),(99017,qKZ),(99018,qAj),(99019,qER),(99021,qLa),(99022,qAk),(99023,qLb)] f
def hd1:Hd aC.T:=hdT aC Tryz.prog (fzC aC K1) (fun _=>false) 1000 5
def qRl(x:Ak)(v:List Ak×Bool)(a:Ak):List Ak×Bool :=
 (bif a.prio != x.prio then(bif !v.2&&decide (a.prio>x.prio) then v.1++[{ x with missed:=0 }] else v.1)++[a] else bif !v.2&&decide (a.prio>x.prio) then v.1++[{ x with missed:=0 }] else v.1,
  v.2||decide (a.prio>x.prio))
def qRm(l:List Ak)(x:Ak):List Ak×Int :=
 let v:=l.foldl (qRl x) ([],x.count==0)
 let out:=bif !v.2 then v.1++[{ x with missed:=0 }] else v.1
 bif decide ((out.length:Int)>8) then([],4) else(out,0)
def qPm(prio:Int)(v:Bool×List Ak)(a:Ak):Bool×List Ak :=
 bif a.prio==prio then(bif decide (w64 (a.count-1)≤0) then(true,v.2) else(true,v.2++[{ a with count:=w64 (a.count-1),missed:=0 }])) else(v.1,v.2++[a])
def qOr(l:List Ak)(prio:Int):List Ak×Bool:=let v:=l.foldl (qPm prio) (false,[]);(v.2,v.1)
def live(a:Ap):Bool:=a.state==1||a.state==2
def kY(v:Bool×List Ap)(a:Ap):Bool×List Ap:=bif !v.1&&!live a then(true,v.2) else(v.1,v.2++[a])
def xM(s:Se):Se:={ s with apps:=(s.apps.foldl kY (false,[])).2 }
def qD6(s:Se)(id:Int):Se×List Int:=({ s with conts:=s.conts.filter fun c=>!(c.app==id),slots:=s.slots.filter fun x=>x.app != id },s.conts.filterMap fun c=>bif c.app==id then some c.id else none)
def qRn(b:UInt8):Bool:=!((b.toNat:Int) != 46)
def qD7(p:B):Nat→Int
 | 0=>-1
 | n+1=>bif qRn (p.getD n 0) then(n:Int) else qD7 p n
def qGm(p:B):B:=bif decide (qD7 p p.length<0) then[] else p.take (qD7 p p.length).toNat
def qLc:TB:=con [.str] [.str] (fun a=>sm (List.length a.1)) (fun a=>(shut qGm a.1,())) rfl
def qPn:TB:=con [.dat 51,.rcd 51] [.dat 51,.int .i64] (fun a=>sm (List.length a.1)) (fun a=>((shut qRm a.1 a.2.1).1,(shut qRm a.1 a.2.1).2,())) rfl
def qMM:TB:=con [.dat 51,.int .i64] [.dat 51,.bool] (fun a=>sm (List.length a.1)) (fun a=>((shut qOr a.1 a.2.1).1,(shut qOr a.1 a.2.1).2,())) rfl
def qGn:TB:=con [.rcd 36] [.rcd 36] (fun a=>iO a.1) (fun a=>(shut xM a.1,())) rfl
def qLd:TB:=con [.rcd 36,.int .i64] [.rcd 36,.dat 3] (fun a=>iO a.1) (fun a=>((shut qD6 a.1 a.2.1).1,(shut qD6 a.1 a.2.1).2,())) rfl
def K2:Con aC.T:=fun f=>aQ [(99001,qHr),(99002,qHs),(99003,qCL),(99004,qKU),(99005,qB6),(99006,qEL),(99007,qHt),(9,xK),(99008,qEM),(99009,qEN),(99010,qB7),(99011,qKY),(99012,qHu),(99013,qEP),(99014,qB9),(99015,qEQ),(99016,qCN),(99017,qKZ),(99018,qAj),(99019,qER),(99021,qLa),(99022,qAk),(99023,qLb),(99024,qLc),(99026,qPn),(99027,qMM),(99028,qGn),(99029,qLd)] f
def hd2:Hd aC.T:=hdT aC Tryz.prog (fzC aC K2) (fun _=>false) 1000 5
end Go.Proofs.YtclpnndkhbnaoaaGreatDoor
