/- Part of the proof: texts Ba Bb Bc Bd Be Bf Bg Bh. No conditions. -/
import Derived.Test.YtclpnndkhbnaoaaGreatDoorAb
import Derived.Test.YtclpnndkhbnaoaaGreatDoorAc
set_option linter.all false
namespace Go.Proofs.YtclpnndkhbnaoaaGreatDoor
open Go Go.W Go.Proofs
open Go.W.DT (ret need br bad loop join)
set_option maxRecDepth 100000
theorem xN{i n:Nat}(h:i<n):ixB (i:Int) (n:Int)=true:=qMG.2 ⟨by omega,by omega⟩
theorem lW{i n:Nat}(h:i<n):decide ((i:Int)<(n:Int))=true:=by simp;omega
theorem oI{n:Nat}:decide ((n:Int)<(n:Int))=false:=by simp
theorem qD8{α:Type}(m:List α):eH 0 m.length m=m:=by rw[zB,jd]
theorem qD9{σ ρ:Type}(n:Nat)(enc:Int→σ){body:σ→DT (σ ⊕ ρ)}{x:ρ}(I:Nat→Prop)(hstep:∀i:Nat,i<n→I i→(I (i+1)∧(body (enc (i:Int))).G (.inl (enc ((i+1:Nat):Int))))∨(body (enc (i:Int))).G (.inr x))
  (hend:I n→(body (enc (n:Int))).G (.inr x)) {i0:Nat} (h0:I i0) (hi0:i0≤n):(DT.loop (enc (i0:Int)) body).G x:=by
 have key:∀(k i:Nat),n-i<k→i≤n→I i→DT.rM (fun s y=>(body s).G y) k (enc (i:Int)) x:=by
  intro k
  induction k with
  | zero=>intro i h;omega
  | succ k ih =>
   intro i hk hi hI
   rcases ja i n with h | h
   ·rcases hstep i h hI with⟨h1,h2⟩ | h2
    ·exact⟨_,h2,ih (i+1) (by omega) (by omega) h1⟩
    ·exact⟨_,h2,rfl⟩
   ·have e:i=n:=by omega
    subst e
    exact⟨_,hend hI,rfl⟩
 exact DT.lK.2 ⟨_,key _ i0 (l8 _) hi0 h0⟩
theorem qLe{α:Type}{a b:List α}(d:α)(hl:a.length=b.length)(h:∀j:Nat,j<a.length→a.getD j d=b.getD j d):a=b:=by
 apply List.ext_getElem hl
 intro i h1 h2
 have:= h i h1
 simpa [List.getD,h1,h2] using this
theorem qLf{α σ ρ:Type}[DecidableEq α](a b:List α)(d:α)(hl:a.length=b.length)(enc:Int→σ){body:σ→DT (σ ⊕ ρ)}(g:Bool→ρ)
  (hstep:∀i:Nat,i<a.length→(body (enc (i:Int))).G (if a.getD i d=b.getD i d then .inl (enc ((i+1:Nat):Int)) else .inr (g false)))
  (hend:(body (enc (a.length:Int))).G (.inr (g true))):(DT.loop (enc 0) body).G (g (decide (a=b))):=by
 refine qD9 a.length enc (fun i=>∀j:Nat,j<i→a.getD j d=b.getD j d) (fun i hi hI=>?_) (fun hI=>?_) (i0:=0) (fun j hj=>by omega) (di _)
 ·have h1:=hstep i hi
  by_cases he:a.getD i d=b.getD i d
  ·rw[if_pos he] at h1
   exact .inl ⟨fun j hj=>by
    rcases ja j i with h | h
    ·exact hI j h
    ·have: j=i:=by omega
     subst this;exact he,h1⟩
  ·rw[if_neg he] at h1
   have hne:a≠b:=fun e=>he (by rw[e])
   rw[decide_eq_false hne]
   exact .inr h1
 ·have he:a=b:=qLe d hl hI
  rw[decide_eq_true he]
  exact hend
theorem qLg{α:Type}{a b:List α}(h:((a.length:Int) != (b.length:Int))=true):a≠b:=by
 intro e;subst e;simp at h
theorem qLh{α β:Type}{a:List α}{b:List β}(h:((a.length:Int) != (b.length:Int))=false):a.length=b.length:=by
 simp at h;omega
theorem qPo{a b:Ak}:a=b↔a.prio=b.prio∧a.label=b.label∧a.size.mem=b.size.mem∧a.size.cores=b.size.cores∧a.count=b.count∧a.node=b.node∧a.rack=b.rack∧a.missed=b.missed:=by
 obtain⟨a1,a2,⟨a3,a4⟩,a5,a6,a7,a8⟩:=a
 obtain⟨b1,b2,⟨b3,b4⟩,b5,b6,b7,b8⟩:=b
 simp only[Ak.mk.injEq,Vec.mk.injEq,and_assoc]
theorem qPp{a b:Ap}:a=b↔a.id=b.id∧a.state=b.state∧a.queue=b.queue∧a.user=b.user∧a.prio=b.prio∧(a.master.mem=b.master.mem∧a.master.cores=b.master.cores)∧a.seen=b.seen∧a.beat=b.beat∧a.asks=b.asks∧a.grants=b.grants∧a.kills=b.kills∧a.told=b.told∧a.lost=b.lost:=by
 obtain⟨a1,a2,a3,a4,a5,⟨a6,a7⟩,a8,a9,a10,a11,a12,a13,a14⟩:=a
 obtain⟨b1,b2,b3,b4,b5,⟨b6,b7⟩,b8,b9,b10,b11,b12,b13,b14⟩:=b
 simp only[Ap.mk.injEq,Vec.mk.injEq]
 grind [qB2,qB3]
def vP(n:Int):Int:=bif decide (n<0)||decide (n>1125899906842624) then 0 else n
theorem qDP{α:Type}{l:List α}{i:Nat}{d x:α}(hi:i<l.length)(h:l.getD i d=x):l.set i x=l:=by
 have: l[i]=x:=by simpa [List.getD,hi] using h
 rw[←this];exact List.set_getElem_self hi
theorem rA{α:Type}(f:α→α)(d:α):∀(l:List α) (i:Nat),i<l.length→(l.take i).map f++f (l.getD i d)::l.drop (i+1)=(l.take (i+1)).map f++l.drop (i+1)
 | [],i,h=>by simp at h
 | a::l,0,_=>by simp
 | a::l,i+1,h=>by
  have:= rA f d l i (by simpa using h)
  simpa using this
theorem qMN{α:Type}(f:α→α)(d:α)(l:List α)(i:Nat)(h:i<l.length):((l.take i).map f++l.drop i).getD i d=l.getD i d:=by
 have hl:((l.take i).map f).length=i:=by simp;omega
 have: ((l.take i).map f++l.drop i)[i]? = l[i]?:=by
  rw[iw (by omega),hl];simp
 show(_:Option α).getD d=(_:Option α).getD d
 rw[this]
theorem qMO{α:Type}(f:α→α)(d:α)(l:List α)(i:Nat)(h:i<l.length):((l.take i).map f++l.drop i).set i (f (l.getD i d))=(l.take (i+1)).map f++l.drop (i+1):=by
 have hl:((l.take i).map f).length=i:=by simp;omega
 rw[←rA f d l i h,List.set_append_right _ _ (by omega),hl,Nat.sub_self,oh h,List.set_cons_zero]
theorem qMP{α:Type}(f:α→α)(l:List α)(i:Nat):((l.take i).map f++l.drop i).length=l.length:=by simp;omega
theorem qHa{α σ ρ:Type}(l:List α)(d:α)(f:α→α)(enc:Int→List α→σ){body:σ→DT (σ ⊕ ρ)}{x:ρ}
  (hstep:∀(i:Nat) (v:List α),i<l.length→v.length=l.length→v.getD i d=l.getD i d→(body (enc (i:Int) v)).G (.inl (enc ((i+1:Nat):Int) (v.set i (f (l.getD i d))))))
  (hend:(body (enc (l.length:Int) (l.map f))).G (.inr x)):(DT.loop (enc 0 l) body).G x:=by
 have key:∀(k i:Nat),l.length-i<k→i≤l.length→DT.rM (fun s y=>(body s).G y) k (enc (i:Int) ((l.take i).map f++l.drop i)) x:=by
  intro k
  induction k with
  | zero=>intro i h;omega
  | succ k ih =>
   intro i hk hi
   rcases ja i l.length with h | h
   ·have h1:=hstep i _ h (qMP f l i) (qMN f d l i h)
    rw[qMO f d l i h] at h1
    exact⟨_,h1,ih (i+1) (by omega) (by omega)⟩
   ·have e:i=l.length:=by omega
    subst e
    have e2:(l.take l.length).map f++l.drop l.length=l.map f:=by simp
    rw[e2]
    exact⟨_,hend,rfl⟩
 have:= key (l.length+1) 0 (by omega) (di _)
 have e2:(l.take 0).map f++l.drop 0=l:=by simp
 rw[e2] at this
 exact DT.lK.2 ⟨_,this⟩
theorem qPq{a b:Cp}:a=b↔a.least=b.least∧a.most=b.most:=by
 obtain⟨a1,a2⟩:=a;obtain⟨b1,b2⟩:=b;simp only[Cp.mk.injEq]
theorem qPr{a b:Qu}:a=b↔a.path=b.path∧a.caps=b.caps∧a.user=b.user:=by
 obtain⟨a1,a2,a3⟩:=a;obtain⟨b1,b2,b3⟩:=b;simp only[Qu.mk.injEq]
theorem qPs{a b:Cf}:a=b↔a.labels=b.labels∧a.queues=b.queues:=by
 obtain⟨a1,a2⟩:=a;obtain⟨b1,b2⟩:=b;simp only[Cf.mk.injEq]
theorem qPt{a b:Nd}:a=b↔a.id=b.id∧a.label=b.label∧a.rack=b.rack∧a.cap.mem=b.cap.mem∧a.cap.cores=b.cap.cores∧a.seen=b.seen∧a.beat=b.beat∧a.up=b.up:=by
 obtain⟨a1,a2,a3,⟨a4,a5⟩,a6,a7,a8⟩:=a
 obtain⟨b1,b2,b3,⟨b4,b5⟩,b6,b7,b8⟩:=b
 simp only[Nd.mk.injEq,Vec.mk.injEq,and_assoc]
theorem qPu{a b:Ct}:a=b↔a.id=b.id∧a.app=b.app∧a.node=b.node∧a.size.mem=b.size.mem∧a.size.cores=b.size.cores∧a.prio=b.prio∧a.label=b.label∧a.master=b.master∧a.notice=b.notice:=by
 obtain⟨a1,a2,a3,⟨a4,a5⟩,a6,a7,a8,a9⟩:=a
 obtain⟨b1,b2,b3,⟨b4,b5⟩,b6,b7,b8,b9⟩:=b
 simp only[Ct.mk.injEq,Vec.mk.injEq,and_assoc]
theorem qPv{a b:Sl}:a=b↔a.node=b.node∧a.app=b.app∧a.prio=b.prio:=by
 obtain⟨a1,a2,a3⟩:=a;obtain⟨b1,b2,b3⟩:=b;simp only[Sl.mk.injEq]
theorem qPw{a b:Pn}:a=b↔a.id=b.id∧a.label=b.label∧a.start=b.start∧a.stop=b.stop∧a.need.mem=b.need.mem∧a.need.cores=b.need.cores:=by
 obtain⟨a1,a2,a3,a4,⟨a5,a6⟩⟩:=a
 obtain⟨b1,b2,b3,b4,⟨b5,b6⟩⟩:=b
 simp only[Pn.mk.injEq,Vec.mk.injEq,and_assoc]
theorem qPx{a b:Se}:a=b↔a.conf=b.conf∧a.nodes=b.nodes∧a.apps=b.apps∧a.conts=b.conts∧a.slots=b.slots∧a.plans=b.plans∧a.now=b.now∧a.epoch=b.epoch∧a.seq=b.seq:=by
 obtain⟨a1,a2,a3,a4,a5,a6,a7,a8,a9⟩:=a
 obtain⟨b1,b2,b3,b4,b5,b6,b7,b8,b9⟩:=b
 simp only[Se.mk.injEq]
theorem qRp{α:Type}{a b:α}[DecidableEq α]{ρ:Type}{f:Bool→ρ}{c:Bool}{t:DT ρ}(h1:c=true→a≠b)(h2:c=false→t.G (f (decide (a=b)))):(br c (ret (f false)) t).G (f (decide (a=b))):=by
 cases c with
 | true=>rw[decide_eq_false (h1 rfl)];exact bA rfl rfl
 | false=>exact aM rfl (h2 rfl)
def zD(a b:Se):Bool:=decide (a=b)
theorem qA1{α β σ ρ:Type}(l:List α)(d:α)(enc:Int→β→σ){body:σ→DT (σ ⊕ ρ)}(f:β→α→β)(fin:β→ρ)(I:Nat→β→Prop)
  (hstep:∀(i:Nat) (b:β),i<l.length→I i b→I (i+1) (f b (l.getD i d))∧(body (enc (i:Int) b)).G (.inl (enc ((i+1:Nat):Int) (f b (l.getD i d)))))
  (hend:∀b,I l.length b→(body (enc (l.length:Int) b)).G (.inr (fin b))) {b0:β} (h0:I 0 b0):(DT.loop (enc 0 b0) body).G (fin (l.foldl f b0)) :=
 qOo l d enc (fun b a=>.inl (f b a)) fin I (fun i b hi hI=>hstep i b hi hI) hend h0 (qCK f fin l b0)
def qSB(c:Cf):Prop:=∀path:B,(qOs c path).2=true→∀p∈(up6 path).dropLast,c.labels.length≤(qOs c p).1.caps.length
def qAl:B:=[114,111,111,116]
theorem qOt{α σ ρ:Type}(l:List α)(d:α)(enc:Int→σ){body:σ→DT (σ ⊕ ρ)}(p:α→Bool)(fin:Nat→ρ)
  (hstep:∀i:Nat,i<l.length→(body (enc (i:Int))).run=some (bif p (l.getD i d) then .inl (enc ((i+1:Nat):Int)) else .inr (fin i)))
  (hend:(body (enc (l.length:Int))).run=some (.inr (fin l.length))):(DT.loop (enc 0) body).G (fin (l.takeWhile p).length):=by
 refine qPi l d (fun i (_:Unit)=>enc i) (fun i _ a=>bif p a then .inl () else .inr (fin i)) (fun i _=>fin i) (fun _ _=>True) (fun i b hi _=>?_) (fun b _=>qCI hend) (b0:=()) trivial ?_
 ·have:= hstep i hi
  cases hc:p (l.getD i d)<;>rw[hc] at this<;>simp only[cond_true,cond_false]
  ·exact qCI this
  ·exact⟨trivial,qCI this⟩
 ·rw[qEH p fin l 0,fe]
section
variable {α ρ:Type} {l xs:List α} {k sz:Nat} {x:α}
theorem qOu(p:α→Bool):(l.takeWhile p).length≤l.length:=(List.takeWhile_prefix _).length_le
end
end Go.Proofs.YtclpnndkhbnaoaaGreatDoor
namespace Go.Proofs.YtclpnndkhbnaoaaGreatDoor
open Go Go.W Go.Proofs
open Go.W.DT (ret need br bad loop join)
set_option maxRecDepth 100000
section
variable {α ρ:Type} {l xs:List α} {k sz:Nat} {x:α}
end
def qIZ{α:Type}(p:α→Bool)(x:α)(l:List α):List α:=(l.takeWhile p++[x])++l.dropWhile p
theorem qHv{α:Type}(p:α→Bool)(x:α)(l:List α):(l.take (l.takeWhile p).length++[x])++l.drop (l.takeWhile p).length=qIZ p x l:=by
 unfold qIZ;rw[(qHp p l).1,(qHp p l).2]
end Go.Proofs.YtclpnndkhbnaoaaGreatDoor
