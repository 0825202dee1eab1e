/- Part of the proof: texts Bc Bd. No conditions. -/
import Derived.Test.YtlmkakccmpncjaaGreatDoorBa
import Derived.Test.YtlmkakccmpncjaaGreatDoorAd
import Derived.Test.YtlmkakccmpncjaaGreatDoorAb
import Derived.Test.YtlmkakccmpncjaaGreatDoorAc
import Derived.Test.YtlmkakccmpncjaaGreatDoorAe
import Derived.Test.YtlmkakccmpncjaaGreatDoorAf
import Derived.Test.YtlmkakccmpncjaaGreatDoorAg
set_option linter.all false
namespace Go.Proofs.YtlmkakccmpncjaaGreatDoor
open Go Go.W Go.Proofs
open Go.W.DT (ret need br bad loop join)
set_option maxRecDepth 100000
def qCu(v:Vec)(bp:Int):Vec×Int :=
 bif !qE4 v||decide (bp<0)||decide (bp>1000000) then(gQ,1) else bif !qE4 ⟨qR8 v.mem bp,qR8 v.cores bp⟩ then(gQ,11) else(⟨qR8 v.mem bp,qR8 v.cores bp⟩,0)
theorem qGe(v:Vec)(bp:Int):qAb v bp=true∧qBX v bp=((qCu v bp).1,(qCu v bp).2,()):=zFX (by
 unfold qSF qCu
 refine aF ?_
 simp only[aK,eG,cB]
 grind)
def fr1(x:Fr):Fr:=bif x.a==0 then⟨x.a,1⟩ else x
def zOZ(a b:Int×Int):Int:=bif decide (a.1<b.1)||a.1==b.1&&decide (a.2<b.2) then -1 else bif a.1==b.1&&a.2==b.2 then 0 else 1
def qPE(x y:Fr):Int :=
 bif (fr1 x).p==0 then(bif (fr1 y).p==0 then 0 else 1) else bif (fr1 y).p==0 then -1 else zOZ (qFF (fr1 x).a (fr1 y).p) (qFF (fr1 y).a (fr1 x).p)
theorem qTn(x y:Fr):qAc x y=true∧qBY x y=(qPE x y,()):=zFY (by
 unfold qSG qPE
 refine aN ((fr1 x,()),()) ?_ (aN ((fr1 y,()),()) ?_ ?_)
 ·unfold fr1;cases x.a==0<;>rfl
 ·unfold fr1;cases y.a==0<;>rfl
 ·generalize fr1 x=x
  generalize fr1 y=y
  refine aF ?_
  simp only[aK,eG,cB,zOZ]
  grind)
def qNO(a p:Vec):Fr:=bif decide (qPE ⟨a.mem,p.mem⟩ ⟨a.cores,p.cores⟩<0) then⟨a.cores,p.cores⟩ else⟨a.mem,p.mem⟩
theorem qIS(a p:Vec):qCb a p=true∧qAV a p=(qNO a p,()):=zJJ (by
 unfold qY5 qNO
 have h:=qTn ⟨a.mem,p.mem⟩ ⟨a.cores,p.cores⟩
 refine aF ?_
 simp only[sS,h.1,h.2]
 grind)
def zMW(a p b q:Vec):Int:=bif qE4 a&&qE4 p&&qE4 b&&qE4 q then qPE (qNO a p) (qNO b q) else 0
theorem zGH(a p b q:Vec):qIM a p b q=true∧qP8 a p b q=(zMW a p b q,()):=zMO (by
 unfold zGj zMW
 have h:=qTn (qNO a p) (qNO b q)
 refine aF ?_
 simp only[sS,aK,(qIS a p).1,(qIS a p).2,(qIS b q).1,(qIS b q).2,h.1,h.2]
 grind)
def rT(n:Int):Int:=bif decide (n<0)||decide (n>1125899906842624) then 0 else n
theorem tO(n:Int):lY n=true∧lK n=(rT n,()):=zGc (by
 unfold qSJ rT
 refine aF ?_
 simp only[eG,cB]
 grind)
theorem qER{α:Type}{l:List α}{i:Nat}{d x:α}(hi:i<l.length)(h:l.getD i d=x):l.set i x=l:=by
 have: l[i]=x:=by simpa [List.getD,hi] using h
 rw[←this];exact List.set_getElem_self hi
theorem qB6{α:Type}(f:α→α)(d:α):∀(l:List α) (i:Nat),i<l.length→(l.take i).map f++f (l.getD i d)::l.drop (i+1)=(l.take (i+1)).map f++l.drop (i+1)
 | [],i,h=>by simp at h
 | a::l,0,_=>by simp
 | a::l,i+1,h=>by
  have:= qB6 f d l i (by simpa using h)
  simpa using this
theorem zKc{α:Type}(f:α→α)(d:α)(l:List α)(i:Nat)(h:i<l.length):((l.take i).map f++l.drop i).getD i d=l.getD i d:=by
 have hl:((l.take i).map f).length=i:=by simp;omega
 have: ((l.take i).map f++l.drop i)[i]? = l[i]?:=by
  rw[jh (by omega),hl];simp
 show(_:Option α).getD d=(_:Option α).getD d
 rw[this]
theorem zKd{α:Type}(f:α→α)(d:α)(l:List α)(i:Nat)(h:i<l.length):((l.take i).map f++l.drop i).set i (f (l.getD i d))=(l.take (i+1)).map f++l.drop (i+1):=by
 have hl:((l.take i).map f).length=i:=by simp;omega
 rw[←qB6 f d l i h,List.set_append_right _ _ (by omega),hl,Nat.sub_self,kv h,List.set_cons_zero]
theorem zKe{α:Type}(f:α→α)(l:List α)(i:Nat):((l.take i).map f++l.drop i).length=l.length:=by simp;omega
theorem qM7{α σ ρ:Type}(l:List α)(d:α)(f:α→α)(enc:Int→List α→σ){body:σ→DT (σ ⊕ ρ)}{x:ρ}
  (hstep:∀(i:Nat) (v:List α),i<l.length→v.length=l.length→v.getD i d=l.getD i d→(body (enc (i:Int) v)).G (.inl (enc ((i+1:Nat):Int) (v.set i (f (l.getD i d))))))
  (hend:(body (enc (l.length:Int) (l.map f))).G (.inr x)):(DT.loop (enc 0 l) body).G x:=by
 have key:∀(k i:Nat),l.length-i<k→i≤l.length→DT.yO (fun s y=>(body s).G y) k (enc (i:Int) ((l.take i).map f++l.drop i)) x:=by
  intro k
  induction k with
  | zero=>intro i h;omega
  | succ k ih =>
   intro i hk hi
   rcases iw i l.length with h | h
   ·have h1:=hstep i _ h (zKe f l i) (zKc f d l i h)
    rw[zKd f d l i h] at h1
    exact⟨_,h1,ih (i+1) (by omega) (by omega)⟩
   ·have e:i=l.length:=by omega
    subst e
    have e2:(l.take l.length).map f++l.drop l.length=l.map f:=by simp
    rw[e2]
    exact⟨_,hend,rfl⟩
 have:= key (l.length+1) 0 (by omega) (cz _)
 have e2:(l.take 0).map f++l.drop 0=l:=by simp
 rw[e2] at this
 exact DT.pF.2 ⟨_,this⟩
theorem qCv{i n:Nat}(h:i<n):Nat.blt i n=true:=by simpa using h
def nL(id t:Int)(c:Ct):Ct:=bif c.id==id then{ c with notice:=t } else c
def mU(s:Se)(id t:Int):Se:={ s with conts:=s.conts.map (nL id t) }
theorem qTo{s:Se}(id t:Int)(h:dH s):qAf s id t=true∧qBZ s id t=(mU s id t,()):=zFZ (by
 unfold qSH
 have hn:=h.conts
 refine aN (s.conts,()) (aF ?_) ?_
 ·simp only[sS,dK hn (by decide:72≤100000)]
 ·refine qM7 s.conts dCt (nL id t) (fun i v=>(i,v,())) (fun i v hi hv hg=>aF ?_) (aF ?_)
  ·have e:∀c:Ct,(c.id==id)=false→nL id t c=c:=fun c hc=>by unfold nL;rw[hc];rfl
   have e2:∀c:Ct,(c.id==id)=true→nL id t c=⟨c.id,c.app,c.node,c.size,c.prio,c.label,c.master,t⟩:=fun c hc=>by unfold nL;rw[hc];rfl
   have hb:i<v.length:=by rw[hv];exact hi
   simp only[sS,qCr,aY hi,aD hi hn,qCv hb,hg]
   cases hc:(s.conts.getD i dCt).id==id with
   | true=>rw[e2 _ hc];rfl
   | false=>rw[e _ hc,qER hb hg];rfl
  ·have hm:(s.conts.map (nL id t)).length=s.conts.length:=by simp
   have e:Nat.ble s.conts.length (s.conts.map (nL id t)).length=true:=by rw[hm];exact fI _
   have e2:List.take s.conts.length (s.conts.map (nL id t))=s.conts.map (nL id t):=by rw[←hm,iq]
   simp only[sS,bE,e,e2]
   rfl)
def yS(prio:Int)(a:Ak):Ak:=bif a.prio==prio then{ a with missed:=if 100<w64 (a.missed+1) then 100 else w64 (a.missed+1) } else a
def qNP(l:List Ak)(prio:Int):List Ak:=l.map (yS prio)
theorem zKf{l:List Ak}(prio:Int)(hn:l.length≤1000000000):qFI l prio=true∧qIL l prio=(qNP l prio,()):=zJI (by
 unfold qY4
 refine aN (l,()) (aF ?_) ?_
 ·simp only[sS,dK hn (by decide:64≤100000)]
 ·refine qM7 l dAk (yS prio) (fun i v=>(i,v,())) (fun i v hi hv hg=>aF ?_) (aF ?_)
  ·have e:∀c:Ak,(c.prio==prio)=false→yS prio c=c:=fun c hc=>by unfold yS;rw[hc];rfl
   have e2:∀c:Ak,(c.prio==prio)=true→yS prio c=⟨c.prio,c.label,c.size,c.count,c.node,c.rack,if 100<w64 (c.missed+1) then 100 else w64 (c.missed+1)⟩:=fun c hc=>by unfold yS;rw[hc];rfl
   have hb:i<v.length:=by rw[hv];exact hi
   simp only[sS,qCr,aY hi,aD hi hn,qCv hb,hg]
   cases hc:(l.getD i dAk).prio==prio with
   | true=>rw[e2 _ hc];rfl
   | false=>rw[e _ hc,qER hb hg];rfl
  ·have hm:(l.map (yS prio)).length=l.length:=by simp
   have e:Nat.ble l.length (l.map (yS prio)).length=true:=by rw[hm];exact fI _
   have e2:List.take l.length (l.map (yS prio))=l.map (yS prio):=by rw[←hm,iq]
   simp only[sS,bE,e,e2]
   rfl)
theorem zPa{i n:Nat}(h:n≤i):decide ((i:Int)<(n:Int))=false:=by simp;omega
theorem zMX{a b:Cp}:a=b↔a.least=b.least∧a.most=b.most:=by
 obtain⟨a1,a2⟩:=a;obtain⟨b1,b2⟩:=b;simp only[Cp.mk.injEq]
theorem zMY{a b:Qu}:a=b↔a.path=b.path∧a.caps=b.caps∧a.user=b.user:=by
 obtain⟨a1,a2,a3⟩:=a;obtain⟨b1,b2,b3⟩:=b;simp only[Qu.mk.injEq]
theorem zMZ{a b:Cf}:a=b↔a.labels=b.labels∧a.queues=b.queues:=by
 obtain⟨a1,a2⟩:=a;obtain⟨b1,b2⟩:=b;simp only[Cf.mk.injEq]
theorem zNa{a b:Nd}:a=b↔a.id=b.id∧a.label=b.label∧a.rack=b.rack∧a.cap.mem=b.cap.mem∧a.cap.cores=b.cap.cores∧a.seen=b.seen∧a.beat=b.beat∧a.up=b.up:=by
 obtain⟨a1,a2,a3,⟨a4,a5⟩,a6,a7,a8⟩:=a
 obtain⟨b1,b2,b3,⟨b4,b5⟩,b6,b7,b8⟩:=b
 simp only[Nd.mk.injEq,Vec.mk.injEq,and_assoc]
theorem zNb{a b:Ct}:a=b↔a.id=b.id∧a.app=b.app∧a.node=b.node∧a.size.mem=b.size.mem∧a.size.cores=b.size.cores∧a.prio=b.prio∧a.label=b.label∧a.master=b.master∧a.notice=b.notice:=by
 obtain⟨a1,a2,a3,⟨a4,a5⟩,a6,a7,a8,a9⟩:=a
 obtain⟨b1,b2,b3,⟨b4,b5⟩,b6,b7,b8,b9⟩:=b
 simp only[Ct.mk.injEq,Vec.mk.injEq,and_assoc]
theorem zNc{a b:Sl}:a=b↔a.node=b.node∧a.app=b.app∧a.prio=b.prio:=by
 obtain⟨a1,a2,a3⟩:=a;obtain⟨b1,b2,b3⟩:=b;simp only[Sl.mk.injEq]
theorem zNd{a b:Pn}:a=b↔a.id=b.id∧a.label=b.label∧a.start=b.start∧a.stop=b.stop∧a.need.mem=b.need.mem∧a.need.cores=b.need.cores:=by
 obtain⟨a1,a2,a3,a4,⟨a5,a6⟩⟩:=a
 obtain⟨b1,b2,b3,b4,⟨b5,b6⟩⟩:=b
 simp only[Pn.mk.injEq,Vec.mk.injEq,and_assoc]
theorem zNe{a b:Se}:a=b↔a.conf=b.conf∧a.nodes=b.nodes∧a.apps=b.apps∧a.conts=b.conts∧a.slots=b.slots∧a.plans=b.plans∧a.now=b.now∧a.epoch=b.epoch∧a.seq=b.seq:=by
 obtain⟨a1,a2,a3,a4,a5,a6,a7,a8,a9⟩:=a
 obtain⟨b1,b2,b3,b4,b5,b6,b7,b8,b9⟩:=b
 simp only[Se.mk.injEq]
theorem zPb{α:Type}{a b:α}[DecidableEq α]{ρ:Type}{f:Bool→ρ}{c:Bool}{t:DT ρ}(h1:c=true→a≠b)(h2:c=false→t.G (f (decide (a=b)))):(br c (ret (f false)) t).G (f (decide (a=b))):=by
 cases c with
 | true=>rw[decide_eq_false (h1 rfl)];exact bW rfl rfl
 | false=>exact aV rfl (h2 rfl)
def qPF(a b:Se):Bool:=decide (a=b)
end Go.Proofs.YtlmkakccmpncjaaGreatDoor
