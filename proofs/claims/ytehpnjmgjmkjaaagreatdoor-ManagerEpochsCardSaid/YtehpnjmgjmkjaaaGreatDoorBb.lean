/- Part of the proof. No conditions. -/
import Derived.Test.YtehpnjmgjmkjaaaGreatDoorAb
import Derived.Test.YtehpnjmgjmkjaaaGreatDoorAc
import Derived.Test.YtehpnjmgjmkjaaaGreatDoorAd
import Derived.Test.YtehpnjmgjmkjaaaGreatDoorAe
import Derived.Test.YtehpnjmgjmkjaaaGreatDoorAf
import Derived.Test.YtehpnjmgjmkjaaaGreatDoorAg
namespace Go.Proofs.YtehpnjmgjmkjaaaGreatDoor
open Go Go.W Go.Proofs
open Go.W.DT (ret need br bad loop join)
set_option maxRecDepth 100000
theorem bG{i n:Nat}(h:i<n):ixB (i:Int) (n:Int)=true:=gZ.2 ⟨by omega,by omega⟩
theorem bF{i n:Nat}(h:i<n):decide ((i:Int)<(n:Int))=true:=by simp;omega
theorem bM{n:Nat}:decide ((n:Int)<(n:Int))=false:=by simp
theorem qCa{i:Nat}:decide ((0:Int)≤(i:Int))=true:=by simp
theorem eF{n b:Nat}(h:n≤1000000000)(hb:b≤100000):aX n b=true:=gI.2 ⟨Nat.le_trans (Nat.mul_le_mul h hb) (by decide),by omega⟩
theorem gL{α:Type}(m:List α):aH 0 m.length m=m:=by rw[mO,List.take_length]
theorem qYy:∀(n:Nat) (p:B),(upN n p).length≤n
 | 0,_=>Nat.le_refl 0
 | n+1,p=>by
  unfold upN
  cases p==[] with
  | true=>exact Nat.zero_le _
  | false=>exact Nat.succ_le_succ (qYy n _)
theorem qQq(p:B):(up6 p).length≤p.length:=qYy _ _
theorem kF{α β σ ρ:Type}(l:List α)(d:α)(enc:Int→β→σ){body:σ→DT (σ ⊕ ρ)}(f:β→α→β)(fin:β→ρ)(I:Nat→β→Prop)
  (hstep:∀(i:Nat) (b:β),i<l.length→I i b→I (i+1) (f b (l.getD i d))∧(body (enc (i:Int) b)).run=some (.inl (enc ((i+1:Nat):Int) (f b (l.getD i d)))))
  (hend:∀b,I l.length b→(body (enc (l.length:Int) b)).run=some (.inr (fin b))) {b0:β} (h0:I 0 b0):(DT.loop (enc 0 b0) body).G (fin (l.foldl f b0)) :=
 lN l d enc (fun b a=>.inl (f b a)) fin I (fun i b hi hI=>hstep i b hi hI) hend h0 (bX f fin l b0)
theorem qHP{α σ ρ:Type}(l:List α)(d:α)(enc:Int→σ){body:σ→DT (σ ⊕ ρ)}(p:α→Bool)(g:Bool→ρ)
  (hstep:∀i:Nat,i<l.length→(body (enc (i:Int))).run=some (bif p (l.getD i d) then .inr (g true) else .inl (enc ((i+1:Nat):Int))))
  (hend:(body (enc (l.length:Int))).run=some (.inr (g false))):(DT.loop (enc 0) body).G (g (l.any p)):=by
 refine lN l d (fun i (_:Unit)=>enc i) (fun _ a=>bif p a then .inr (g true) else .inl ()) (fun _=>g false) (fun _ _=>True) (fun i b hi _=>?_) (fun b _=>hend) (b0:=()) trivial (zG _ g _)
 have:= hstep i hi
 cases hc:p (l.getD i d)<;>rw[hc] at this<;>simp only[cond_true,cond_false]
 ·exact⟨trivial,this⟩
 ·exact this
def qQr(leaf path:B):Bool:=(up6 leaf).any (·== path)
theorem qOv{leaf:B}(path:B)(h:leaf.length≤1000000000):vW leaf path=true∧zM leaf path=(qQr leaf path,()):=zAt (by
 unfold qNW
 refine bB (eX.2 h) ?_
 simp only[aN]
 have hn:(up6 leaf).length≤1000000000:=Nat.le_trans (qQq _) h
 refine qHP (up6 leaf) [] (fun i=>(i,())) (·== path) (fun b=>(b,())) (fun i hi=>?_) ?_
 ·simp only[sS,bG hi,bF hi,aG hi hn]
  grind [iH,iU]
 ·simp only[sS,bM])
def gV(s:Se)(path:B)(label:Int)(all:Bool)(user:Int):Vec :=
 s.conts.foldl (fun v c=>bif (aB s c.app).2&&c.label==label&&qQr (aB s c.app).1.queue path&&(all||(aB s c.app).1.user==user) then gD v c.size else v) gG
theorem qQs{s:Se}(h:dV s)(id:Int):(aB s id).1.queue.length≤1000000000:=by
 rcases qNk (d:=dAp) (p:=fun a:Ap=>a.id==id) (l:=s.apps) with e | e
 ·have e:(aB s id).1=dAp:=e
  rw[e];exact Nat.zero_le _
 ·exact(h.app _ e).queue
theorem nP{s:Se}(path:B)(label:Int)(all:Bool)(user:Int)(h:dV s):gK s path label all user=true∧dD s path label all user=(gV s path label all user,()):=zEx (by
 unfold qTi
 have hn:=h.conts
 refine kF s.conts dCt (fun i (v:Vec)=>(i,(v,()),())) _ (fun v=>(v,())) (fun _ _=>True) (fun i b hi _=>⟨trivial,?_⟩) (fun b _=>?_) trivial
 ·have hq:=qOv path (qQs h (s.conts.getD i dCt).app)
  simp only[sS,bG hi,bF hi,aG hi hn,aN,hq.1,hq.2,aO.2 h,gD]
  grind [iH,iU]
 ·simp only[sS,bM])
theorem zEU{s:Se}(h:dV s){i:Nat}(hi:i<s.apps.length):(s.apps.getD i dAp).queue.length≤1000000000:=(h.app _ (bT hi)).queue
theorem qYz{s:Se}(h:dV s){i:Nat}(hi:i<s.apps.length):(s.apps.getD i dAp).asks.length≤1000000000:=(h.app _ (bT hi)).asks
theorem lY(a:Ap):mQ a=true∧pM a=(live a,()):=zEu (by
 unfold qTe live
 refine aF ?_
 simp only[fC,dE]
 grind)
def qY(s:Se)(path:B)(label:Int):Vec :=
 s.apps.foldl (fun v a=>bif live a&&qQr a.queue path then gD v (qB7 a.asks label) else v) gG
theorem qHQ{s:Se}(path:B)(label:Int)(h:dV s):pO s path label=true∧lU s path label=(qY s path label,()):=qTh (by
 unfold qHN
 have hn:=h.apps
 refine kF s.apps dAp (fun i (v:Vec)=>(i,(v,()),())) _ (fun v=>(v,())) (fun _ _=>True) (fun i b hi _=>⟨trivial,?_⟩) (fun b _=>?_) trivial
 ·have hq:=qOv path (zEU h hi)
  simp only[sS,bG hi,bF hi,aG hi hn,aN,hq.1,hq.2,eX.2 (qYz h hi),gD,(lY _).1,(lY _).2]
  grind [iH,iU]
 ·simp only[sS,bM])
def qCb(s:Se)(c:Ct):Int:=bif c.master then s.conts.foldl (fun n x=>bif x.app==c.app&&x.id != c.id&&x.label==c.label then w64 (n+x.size.mem) else n) 0 else 0
theorem qVU{s:Se}(c:Ct)(h:dV s):wW s c=true∧qAC s c=(qCb s c,()):=qVJ (by
 unfold qLh qCb
 have hn:=h.conts
 cases hm:c.master with
 | true =>
  simp only[cond_true]
  refine kF s.conts dCt (fun i (v:Int)=>(v,i,())) _ (fun v=>(v,())) (fun _ _=>True) (fun i b hi _=>⟨trivial,?_⟩) (fun b _=>?_) trivial
  ·simp only[sS,bG hi,bF hi,aG hi hn]
   grind [iH,iU]
  ·simp only[sS,bM]
 | false =>
  simp only[cond_false]
  refine DT.qN.2 ⟨1,.inr (0,()),aF ?_,rfl⟩
  simp only[sS]
  grind [iH,iU])
def tN(s:Se)(c:Ct):B:=(aB s c.app).1.queue
def qCc(s:Se)(path:B)(label:Int)(l:List Int):Int :=
 s.conts.foldl (fun n c=>bif c.label==label&&(path==[]||tN s c==path)&&(c.notice != 0||yC l c.id) then w64 (n+c.size.mem) else n) 0
theorem qLz{s:Se}(path:B)(label:Int){l:List Int}(h:dV s)(hl:l.length≤1000000000):oZ s path label l=true∧lV s path label l=(qCc s path label l,()):=qVL (by
 unfold qLj
 have hn:=h.conts
 refine kF s.conts dCt (fun i (v:Int)=>(v,i,())) _ (fun v=>(v,())) (fun _ _=>True) (fun i b hi _=>⟨trivial,?_⟩) (fun b _=>?_) trivial
 ·simp only[sS,bG hi,bF hi,aG hi hn,aN,aO.2 h,eX.2 hl,tN]
  grind [iH,iU]
 ·simp only[sS,bM])
def qZ(s:Se)(path:B)(label:Int)(l:List Int)(v:Ct×Bool)(c:Ct):Ct×Bool :=
 bif c.label != label||!(tN s c==path)||c.notice != 0||yC l c.id then v else bif !v.2||v.1.master&&!c.master||v.1.master==c.master&&decide (c.id>v.1.id) then(c,true) else v
def nQ(s:Se)(path:B)(label:Int)(l:List Int):Ct×Bool:=s.conts.foldl (qZ s path label l) (dCt,false)
theorem qVV{s:Se}(path:B)(label:Int){l:List Int}(h:dV s)(hl:l.length≤1000000000):sK s path label l=true∧oG s path label l=((nQ s path label l).1,(nQ s path label l).2,()):=qVM (by
 unfold qLk
 have hn:=h.conts
 refine kF s.conts dCt (fun i (v:Ct×Bool)=>(v.2,i,(v.1,()),())) (qZ s path label l) (fun v=>(v.1,v.2,())) (fun _ _=>True) (fun i b hi _=>⟨trivial,?_⟩) (fun b _=>?_) (b0:=(dCt,false)) trivial
 ·simp only[sS,bG hi,bF hi,aG hi hn,aN,aO.2 h,eX.2 hl,tN,qZ]
  grind [iH,iU]
 ·simp only[sS,bM])
def pU(a b:Vec):Bool:=decide (a.mem≤b.mem)&&decide (a.cores≤b.cores)
def qQt(l:List Pn)(total:Vec)(p:Pn)(t long:Int):Bool :=
 pU (gD (qIf l p.label t) p.need) total&&!(l.any fun x=>decide (x.start>t)&&decide (w64 (x.start-t)<long)&&!pU (gD (qIf l p.label x.start) p.need) total)
theorem zEV{l:List Pn}(total:Vec)(p:Pn)(t long:Int)(hn:l.length≤1000000000):zP l total p t long=true∧qBN l total p t long=(qQt l total p t long,()):=zEy (by
 unfold qTj qQt
 refine bB (eX.2 hn) ?_
 simp only[aN]
 refine qZT (fun h1=>qZT (fun h2=>?_) fun h2=>?_) fun h1=>?_
 ·have: pU (gD (qIf l p.label t) p.need) total=false:=by simp only[pU,gD];grind
  rw[this,Bool.false_and];rfl
 ·have: pU (gD (qIf l p.label t) p.need) total=true:=by simp only[pU,gD];grind
  rw[this,Bool.true_and]
  refine qHP l dPn (fun i=>(i,())) (fun x=>decide (x.start>t)&&decide (w64 (x.start-t)<long)&&!pU (gD (qIf l p.label x.start) p.need) total) (fun b=>(!b,())) (fun i hi=>?_) ?_
  ·simp only[sS,bG hi,bF hi,aG hi hn,eX.2 hn,pU,gD]
   grind [iH,iU]
  ·simp only[sS,bM]
 ·have: pU (gD (qIf l p.label t) p.need) total=false:=by simp only[pU,gD];grind
  rw[this,Bool.false_and];rfl)
theorem qVW{σ ρ:Type}(n:Nat)(enc:Int→σ){body:σ→DT (σ ⊕ ρ)}{x:ρ}(I:Nat→Prop)(hstep:∀i:Nat,i<n→I i→(I (i+1)∧(body (enc (i:Int))).G (.inl (enc ((i+1:Nat):Int))))∨(body (enc (i:Int))).G (.inr x))
  (hend:I n→(body (enc (n:Int))).G (.inr x)) {i0:Nat} (h0:I i0) (hi0:i0≤n):(DT.loop (enc (i0:Int)) body).G x:=by
 have key:∀(k i:Nat),n-i<k→i≤n→I i→DT.qAw (fun s y=>(body s).G y) k (enc (i:Int)) x:=by
  intro k
  induction k with
  | zero=>intro i h;omega
  | succ k ih =>
   intro i hk hi hI
   rcases Nat.lt_or_ge i n with h | h
   ·rcases hstep i h hI with⟨h1,h2⟩ | h2
    ·exact⟨_,h2,ih (i+1) (by omega) (by omega) h1⟩
    ·exact⟨_,h2,rfl⟩
   ·have e:i=n:=by omega
    subst e
    exact⟨_,hend hI,rfl⟩
 exact DT.qN.2 ⟨_,key _ i0 (Nat.lt_succ_self _) hi0 h0⟩
theorem zEW{α:Type}{a b:List α}(d:α)(hl:a.length=b.length)(h:∀j:Nat,j<a.length→a.getD j d=b.getD j d):a=b:=by
 apply List.ext_getElem hl
 intro i h1 h2
 have:= h i h1
 simpa [List.getD,h1,h2] using this
theorem zEX{α σ ρ:Type}[DecidableEq α](a b:List α)(d:α)(hl:a.length=b.length)(enc:Int→σ){body:σ→DT (σ ⊕ ρ)}(g:Bool→ρ)
  (hstep:∀i:Nat,i<a.length→(body (enc (i:Int))).G (if a.getD i d=b.getD i d then .inl (enc ((i+1:Nat):Int)) else .inr (g false)))
  (hend:(body (enc (a.length:Int))).G (.inr (g true))):(DT.loop (enc 0) body).G (g (decide (a=b))):=by
 refine qVW a.length enc (fun i=>∀j:Nat,j<i→a.getD j d=b.getD j d) (fun i hi hI=>?_) (fun hI=>?_) (i0:=0) (fun j hj=>by omega) (Nat.zero_le _)
 ·have h1:=hstep i hi
  by_cases he:a.getD i d=b.getD i d
  ·rw[if_pos he] at h1
   exact .inl ⟨fun j hj=>by
    rcases Nat.lt_or_ge j i with h | h
    ·exact hI j h
    ·have: j=i:=by omega
     subst this;exact he,h1⟩
  ·rw[if_neg he] at h1
   have hne:a≠b:=fun e=>he (by rw[e])
   rw[decide_eq_false hne]
   exact .inr h1
 ·have he:a=b:=zEW d hl hI
  rw[decide_eq_true he]
  exact hend
theorem zEY{α:Type}{a b:List α}(h:((a.length:Int) != (b.length:Int))=true):a≠b:=by
 intro e;subst e;simp at h
theorem qVX{α β:Type}{a:List α}{b:List β}(h:((a.length:Int) != (b.length:Int))=false):a.length=b.length:=by
 simp at h;omega
theorem zJV{a b:Ak}:a=b↔a.prio=b.prio∧a.label=b.label∧a.size.mem=b.size.mem∧a.size.cores=b.size.cores∧a.count=b.count∧a.node=b.node∧a.rack=b.rack∧a.missed=b.missed:=by
 obtain⟨a1,a2,⟨a3,a4⟩,a5,a6,a7,a8⟩:=a
 obtain⟨b1,b2,⟨b3,b4⟩,b5,b6,b7,b8⟩:=b
 simp only[Ak.mk.injEq,Vec.mk.injEq,and_assoc]
theorem zJW{a b:Ap}:a=b↔a.id=b.id∧a.state=b.state∧a.queue=b.queue∧a.user=b.user∧a.prio=b.prio∧(a.master.mem=b.master.mem∧a.master.cores=b.master.cores)∧a.seen=b.seen∧a.beat=b.beat∧a.asks=b.asks∧a.grants=b.grants∧a.kills=b.kills∧a.told=b.told∧a.lost=b.lost:=by
 obtain⟨a1,a2,a3,a4,a5,⟨a6,a7⟩,a8,a9,a10,a11,a12,a13,a14⟩:=a
 obtain⟨b1,b2,b3,b4,b5,⟨b6,b7⟩,b8,b9,b10,b11,b12,b13,b14⟩:=b
 simp only[Ap.mk.injEq,Vec.mk.injEq]
 grind [iH,iU]
end Go.Proofs.YtehpnjmgjmkjaaaGreatDoor
namespace Go.Proofs.YtehpnjmgjmkjaaaGreatDoor
open Go Go.W Go.Proofs
open Go.W.DT (ret need br bad loop join)
set_option maxRecDepth 100000
def qCd(v:Vec)(bp:Int):Vec×Int :=
 bif !qEj v||decide (bp<0)||decide (bp>1000000) then(gG,1) else bif !qEj ⟨qMy v.mem bp,qMy v.cores bp⟩ then(gG,11) else(⟨qMy v.mem bp,qMy v.cores bp⟩,0)
theorem qF6(v:Vec)(bp:Int):zK v bp=true∧qBH v bp=((qCd v bp).1,(qCd v bp).2,()):=zEq (by
 unfold qTb qCd
 refine aF ?_
 simp only[aN,fC,dE]
 grind)
def fr1(x:Fr):Fr:=bif x.a==0 then⟨x.a,1⟩ else x
def zLH(a b:Int×Int):Int:=bif decide (a.1<b.1)||a.1==b.1&&decide (a.2<b.2) then -1 else bif a.1==b.1&&a.2==b.2 then 0 else 1
def qQu(x y:Fr):Int :=
 bif (fr1 x).p==0 then(bif (fr1 y).p==0 then 0 else 1) else bif (fr1 y).p==0 then -1 else zLH (nO (fr1 x).a (fr1 y).p) (nO (fr1 y).a (fr1 x).p)
theorem qT6(x y:Fr):zL x y=true∧qBI x y=(qQu x y,()):=zEr (by
 unfold qTc qQu
 refine aT ((fr1 x,()),()) ?_ (aT ((fr1 y,()),()) ?_ ?_)
 ·unfold fr1;cases x.a==0<;>rfl
 ·unfold fr1;cases y.a==0<;>rfl
 ·generalize fr1 x=x
  generalize fr1 y=y
  refine aF ?_
  simp only[aN,fC,dE,zLH]
  grind)
def qOw(a p:Vec):Fr:=bif decide (qQu ⟨a.mem,p.mem⟩ ⟨a.cores,p.cores⟩<0) then⟨a.cores,p.cores⟩ else⟨a.mem,p.mem⟩
theorem qIC(a p:Vec):qBL a p=true∧qAG a p=(qOw a p,()):=zHs (by
 unfold qYe qOw
 have h:=qT6 ⟨a.mem,p.mem⟩ ⟨a.cores,p.cores⟩
 refine aF ?_
 simp only[sS,h.1,h.2]
 grind)
def zJX(a p b q:Vec):Int:=bif qEj a&&qEj p&&qEj b&&qEj q then qQu (qOw a p) (qOw b q) else 0
theorem zEZ(a p b q:Vec):qI9 a p b q=true∧qKH a p b q=(zJX a p b q,()):=zJP (by
 unfold zE2 zJX
 have h:=qT6 (qOw a p) (qOw b q)
 refine aF ?_
 simp only[sS,aN,(qIC a p).1,(qIC a p).2,(qIC b q).1,(qIC b q).2,h.1,h.2]
 grind)
def rA(n:Int):Int:=bif decide (n<0)||decide (n>1125899906842624) then 0 else n
theorem sW(n:Int):mR n=true∧aL n=(rA n,()):=zEv (by
 unfold qTf rA
 refine aF ?_
 simp only[fC,dE]
 grind)
theorem qE5{α:Type}{l:List α}{i:Nat}{d x:α}(hi:i<l.length)(h:l.getD i d=x):l.set i x=l:=by
 have: l[i]=x:=by simpa [List.getD,hi] using h
 rw[←this];exact List.set_getElem_self hi
theorem xV{α:Type}(f:α→α)(d:α):∀(l:List α) (i:Nat),i<l.length→(l.take i).map f++f (l.getD i d)::l.drop (i+1)=(l.take (i+1)).map f++l.drop (i+1)
 | [],i,h=>by simp at h
 | a::l,0,_=>by simp
 | a::l,i+1,h=>by
  have:= xV f d l i (by simpa using h)
  simpa using this
theorem zHB{α:Type}(f:α→α)(d:α)(l:List α)(i:Nat)(h:i<l.length):((l.take i).map f++l.drop i).getD i d=l.getD i d:=by
 have hl:((l.take i).map f).length=i:=by simp;omega
 have: ((l.take i).map f++l.drop i)[i]? = l[i]?:=by
  rw[List.getElem?_append_right (by omega),hl];simp
 show(_:Option α).getD d=(_:Option α).getD d
 rw[this]
theorem zHC{α:Type}(f:α→α)(d:α)(l:List α)(i:Nat)(h:i<l.length):((l.take i).map f++l.drop i).set i (f (l.getD i d))=(l.take (i+1)).map f++l.drop (i+1):=by
 have hl:((l.take i).map f).length=i:=by simp;omega
 rw[←xV f d l i h,List.set_append_right _ _ (by omega),hl,Nat.sub_self,List.drop_eq_getElem_cons h,List.set_cons_zero]
theorem zHD{α:Type}(f:α→α)(l:List α)(i:Nat):((l.take i).map f++l.drop i).length=l.length:=by simp;omega
theorem qMO{α σ ρ:Type}(l:List α)(d:α)(f:α→α)(enc:Int→List α→σ){body:σ→DT (σ ⊕ ρ)}{x:ρ}
  (hstep:∀(i:Nat) (v:List α),i<l.length→v.length=l.length→v.getD i d=l.getD i d→(body (enc (i:Int) v)).G (.inl (enc ((i+1:Nat):Int) (v.set i (f (l.getD i d))))))
  (hend:(body (enc (l.length:Int) (l.map f))).G (.inr x)):(DT.loop (enc 0 l) body).G x:=by
 have key:∀(k i:Nat),l.length-i<k→i≤l.length→DT.qAw (fun s y=>(body s).G y) k (enc (i:Int) ((l.take i).map f++l.drop i)) x:=by
  intro k
  induction k with
  | zero=>intro i h;omega
  | succ k ih =>
   intro i hk hi
   rcases Nat.lt_or_ge i l.length with h | h
   ·have h1:=hstep i _ h (zHD f l i) (zHB f d l i h)
    rw[zHC f d l i h] at h1
    exact⟨_,h1,ih (i+1) (by omega) (by omega)⟩
   ·have e:i=l.length:=by omega
    subst e
    have e2:(l.take l.length).map f++l.drop l.length=l.map f:=by simp
    rw[e2]
    exact⟨_,hend,rfl⟩
 have:= key (l.length+1) 0 (by omega) (Nat.zero_le _)
 have e2:(l.take 0).map f++l.drop 0=l:=by simp
 rw[e2] at this
 exact DT.qN.2 ⟨_,this⟩
theorem qCe{i n:Nat}(h:i<n):Nat.blt i n=true:=by simpa using h
def rR(id t:Int)(c:Ct):Ct:=bif c.id==id then{ c with notice:=t } else c
def rC(s:Se)(id t:Int):Se:={ s with conts:=s.conts.map (rR id t) }
theorem qT7{s:Se}(id t:Int)(h:dV s):zN s id t=true∧qBJ s id t=(rC s id t,()):=zEs (by
 unfold qTd
 have hn:=h.conts
 refine aT (s.conts,()) (aF ?_) ?_
 ·simp only[sS,eF hn (by decide:72≤100000)]
 ·refine qMO s.conts dCt (rR id t) (fun i v=>(i,v,())) (fun i v hi hv hg=>aF ?_) (aF ?_)
  ·have e:∀c:Ct,(c.id==id)=false→rR id t c=c:=fun c hc=>by unfold rR;rw[hc];rfl
   have e2:∀c:Ct,(c.id==id)=true→rR id t c=⟨c.id,c.app,c.node,c.size,c.prio,c.label,c.master,t⟩:=fun c hc=>by unfold rR;rw[hc];rfl
   have hb:i<v.length:=by rw[hv];exact hi
   simp only[sS,qCa,bF hi,aG hi hn,qCe hb,hg]
   cases hc:(s.conts.getD i dCt).id==id with
   | true=>rw[e2 _ hc];rfl
   | false=>rw[e _ hc,qE5 hb hg];rfl
  ·have hm:(s.conts.map (rR id t)).length=s.conts.length:=by simp
   have e:Nat.ble s.conts.length (s.conts.map (rR id t)).length=true:=by rw[hm];exact nN _
   have e2:List.take s.conts.length (s.conts.map (rR id t))=s.conts.map (rR id t):=by rw[←hm,List.take_length]
   simp only[sS,bM,e,e2]
   rfl)
def yD(prio:Int)(a:Ak):Ak:=bif a.prio==prio then{ a with missed:=if 100<w64 (a.missed+1) then 100 else w64 (a.missed+1) } else a
def qT8(l:List Ak)(prio:Int):List Ak:=l.map (yD prio)
theorem zHE{l:List Ak}(prio:Int)(hn:l.length≤1000000000):qBK l prio=true∧qAE l prio=(qT8 l prio,()):=zHr (by
 unfold qYd
 refine aT (l,()) (aF ?_) ?_
 ·simp only[sS,eF hn (by decide:64≤100000)]
 ·refine qMO l dAk (yD prio) (fun i v=>(i,v,())) (fun i v hi hv hg=>aF ?_) (aF ?_)
  ·have e:∀c:Ak,(c.prio==prio)=false→yD prio c=c:=fun c hc=>by unfold yD;rw[hc];rfl
   have e2:∀c:Ak,(c.prio==prio)=true→yD prio c=⟨c.prio,c.label,c.size,c.count,c.node,c.rack,if 100<w64 (c.missed+1) then 100 else w64 (c.missed+1)⟩:=fun c hc=>by unfold yD;rw[hc];rfl
   have hb:i<v.length:=by rw[hv];exact hi
   simp only[sS,qCa,bF hi,aG hi hn,qCe hb,hg]
   cases hc:(l.getD i dAk).prio==prio with
   | true=>rw[e2 _ hc];rfl
   | false=>rw[e _ hc,qE5 hb hg];rfl
  ·have hm:(l.map (yD prio)).length=l.length:=by simp
   have e:Nat.ble l.length (l.map (yD prio)).length=true:=by rw[hm];exact nN _
   have e2:List.take l.length (l.map (yD prio))=l.map (yD prio):=by rw[←hm,List.take_length]
   simp only[sS,bM,e,e2]
   rfl)
theorem zLI{i n:Nat}(h:n≤i):decide ((i:Int)<(n:Int))=false:=by simp;omega
theorem zJY{a b:Cp}:a=b↔a.least=b.least∧a.most=b.most:=by
 obtain⟨a1,a2⟩:=a;obtain⟨b1,b2⟩:=b;simp only[Cp.mk.injEq]
theorem zJZ{a b:Qu}:a=b↔a.path=b.path∧a.caps=b.caps∧a.user=b.user:=by
 obtain⟨a1,a2,a3⟩:=a;obtain⟨b1,b2,b3⟩:=b;simp only[Qu.mk.injEq]
theorem zKa{a b:Cf}:a=b↔a.labels=b.labels∧a.queues=b.queues:=by
 obtain⟨a1,a2⟩:=a;obtain⟨b1,b2⟩:=b;simp only[Cf.mk.injEq]
theorem zKb{a b:Nd}:a=b↔a.id=b.id∧a.label=b.label∧a.rack=b.rack∧a.cap.mem=b.cap.mem∧a.cap.cores=b.cap.cores∧a.seen=b.seen∧a.beat=b.beat∧a.up=b.up:=by
 obtain⟨a1,a2,a3,⟨a4,a5⟩,a6,a7,a8⟩:=a
 obtain⟨b1,b2,b3,⟨b4,b5⟩,b6,b7,b8⟩:=b
 simp only[Nd.mk.injEq,Vec.mk.injEq,and_assoc]
theorem zKc{a b:Ct}:a=b↔a.id=b.id∧a.app=b.app∧a.node=b.node∧a.size.mem=b.size.mem∧a.size.cores=b.size.cores∧a.prio=b.prio∧a.label=b.label∧a.master=b.master∧a.notice=b.notice:=by
 obtain⟨a1,a2,a3,⟨a4,a5⟩,a6,a7,a8,a9⟩:=a
 obtain⟨b1,b2,b3,⟨b4,b5⟩,b6,b7,b8,b9⟩:=b
 simp only[Ct.mk.injEq,Vec.mk.injEq,and_assoc]
theorem zKd{a b:Sl}:a=b↔a.node=b.node∧a.app=b.app∧a.prio=b.prio:=by
 obtain⟨a1,a2,a3⟩:=a;obtain⟨b1,b2,b3⟩:=b;simp only[Sl.mk.injEq]
theorem zKe{a b:Pn}:a=b↔a.id=b.id∧a.label=b.label∧a.start=b.start∧a.stop=b.stop∧a.need.mem=b.need.mem∧a.need.cores=b.need.cores:=by
 obtain⟨a1,a2,a3,a4,⟨a5,a6⟩⟩:=a
 obtain⟨b1,b2,b3,b4,⟨b5,b6⟩⟩:=b
 simp only[Pn.mk.injEq,Vec.mk.injEq]
theorem zKf{a b:Se}:a=b↔a.conf=b.conf∧a.nodes=b.nodes∧a.apps=b.apps∧a.conts=b.conts∧a.slots=b.slots∧a.plans=b.plans∧a.now=b.now∧a.epoch=b.epoch∧a.seq=b.seq:=by
 obtain⟨a1,a2,a3,a4,a5,a6,a7,a8,a9⟩:=a
 obtain⟨b1,b2,b3,b4,b5,b6,b7,b8,b9⟩:=b
 simp only[Se.mk.injEq]
theorem zLJ{α:Type}{a b:α}[DecidableEq α]{ρ:Type}{f:Bool→ρ}{c:Bool}{t:DT ρ}(h1:c=true→a≠b)(h2:c=false→t.G (f (decide (a=b)))):(br c (ret (f false)) t).G (f (decide (a=b))):=by
 cases c with
 | true=>rw[decide_eq_false (h1 rfl)];exact fQ rfl rfl
 | false=>exact bN rfl (h2 rfl)
def qGV(a b:Se):Bool:=decide (a=b)
end Go.Proofs.YtehpnjmgjmkjaaaGreatDoor
