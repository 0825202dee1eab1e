/- Part of the proof: texts Ba Bb. No conditions. -/
import Derived.Test.YtlmkakccmpncjaaGreatDoorAb
import Derived.Test.YtlmkakccmpncjaaGreatDoorAc
set_option linter.all false
namespace Go.Proofs.YtlmkakccmpncjaaGreatDoor
open Go Go.W Go.Proofs
open Go.W.DT (ret need br bad loop join)
set_option maxRecDepth 100000
theorem bB{i n:Nat}(h:i<n):ixB (i:Int) (n:Int)=true:=iT.2 ⟨by omega,by omega⟩
theorem aY{i n:Nat}(h:i<n):decide ((i:Int)<(n:Int))=true:=by simp;omega
theorem bE{n:Nat}:decide ((n:Int)<(n:Int))=false:=by simp
theorem qCr{i:Nat}:decide ((0:Int)≤(i:Int))=true:=by simp
theorem dK{n b:Nat}(h:n≤1000000000)(hb:b≤100000):aT n b=true:=fZ.2 ⟨bq (o5 h hb) (by decide),by omega⟩
theorem eB{α:Type}(m:List α):aO 0 m.length m=m:=by rw[lV,iq]
theorem qYS:∀(n:Nat) (p:B),(upN n p).length≤n
 | 0,_=>df 0
 | n+1,p=>by
  unfold upN
  cases p==[] with
  | true=>exact cz _
  | false=>exact qg (qYS n _)
theorem qPA(p:B):(up6 p).length≤p.length:=qYS _ _
theorem jZ{α β σ ρ:Type}(l:List α)(d:α)(enc:Int→β→σ){body:σ→DT (σ ⊕ ρ)}(f:β→α→β)(fin:β→ρ)(I:Nat→β→Prop)
  (hstep:∀(i:Nat) (b:β),i<l.length→I i b→I (i+1) (f b (l.getD i d))∧(body (enc (i:Int) b)).run=some (.inl (enc ((i+1:Nat):Int) (f b (l.getD i d)))))
  (hend:∀b,I l.length b→(body (enc (l.length:Int) b)).run=some (.inr (fin b))) {b0:β} (h0:I 0 b0):(DT.loop (enc 0 b0) body).G (fin (l.foldl f b0)) :=
 mR l d enc (fun b a=>.inl (f b a)) fin I (fun i b hi hI=>hstep i b hi hI) hend h0 (bM f fin l b0)
theorem qIe{α σ ρ:Type}(l:List α)(d:α)(enc:Int→σ){body:σ→DT (σ ⊕ ρ)}(p:α→Bool)(g:Bool→ρ)
  (hstep:∀i:Nat,i<l.length→(body (enc (i:Int))).run=some (bif p (l.getD i d) then .inr (g true) else .inl (enc ((i+1:Nat):Int))))
  (hend:(body (enc (l.length:Int))).run=some (.inr (g false))):(DT.loop (enc 0) body).G (g (l.any p)):=by
 refine mR l d (fun i (_:Unit)=>enc i) (fun _ a=>bif p a then .inr (g true) else .inl ()) (fun _=>g false) (fun _ _=>True) (fun i b hi _=>?_) (fun b _=>hend) (b0:=()) trivial (qBR _ g _)
 have:= hstep i hi
 cases hc:p (l.getD i d)<;>rw[hc] at this<;>simp only[cond_true,cond_false]
 ·exact⟨trivial,this⟩
 ·exact this
def qPB(leaf path:B):Bool:=(up6 leaf).any (·== path)
theorem qNN{leaf:B}(path:B)(h:leaf.length≤1000000000):wN leaf path=true∧qAd leaf path=(qPB leaf path,()):=zB4 (by
 unfold qNz
 refine aH (eH.2 h) ?_
 simp only[aK]
 have hn:(up6 leaf).length≤1000000000:=bq (qPA _) h
 refine qIe (up6 leaf) [] (fun i=>(i,())) (·== path) (fun b=>(b,())) (fun i hi=>?_) ?_
 ·simp only[sS,bB hi,aY hi,aD hi hn]
  grind [iB,iV]
 ·simp only[sS,bE])
def gL(s:Se)(path:B)(label:Int)(all:Bool)(user:Int):Vec :=
 s.conts.foldl (fun v c=>bif (aB s c.app).2&&c.label==label&&qPB (aB s c.app).1.queue path&&(all||(aB s c.app).1.user==user) then fQ v c.size else v) gQ
theorem qPC{s:Se}(h:dH s)(id:Int):(aB s id).1.queue.length≤1000000000:=by
 rcases qMV (d:=dAp) (p:=fun a:Ap=>a.id==id) (l:=s.apps) with e | e
 ·have e:(aB s id).1=dAp:=e
  rw[e];exact cz _
 ·exact(h.app _ e).queue
theorem nD{s:Se}(path:B)(label:Int)(all:Bool)(user:Int)(h:dH s):gF s path label all user=true∧iC s path label all user=(gL s path label all user,()):=zGe (by
 unfold qSM
 have hn:=h.conts
 refine jZ s.conts dCt (fun i (v:Vec)=>(i,(v,()),())) _ (fun v=>(v,())) (fun _ _=>True) (fun i b hi _=>⟨trivial,?_⟩) (fun b _=>?_) trivial
 ·have hq:=qNN path (qPC h (s.conts.getD i dCt).app)
  simp only[sS,bB hi,aY hi,aD hi hn,aK,hq.1,hq.2,aM.2 h,fQ]
  grind [iB,iV]
 ·simp only[sS,bE])
theorem zGC{s:Se}(h:dH s){i:Nat}(hi:i<s.apps.length):(s.apps.getD i dAp).queue.length≤1000000000:=(h.app _ (bL hi)).queue
theorem qYT{s:Se}(h:dH s){i:Nat}(hi:i<s.apps.length):(s.apps.getD i dAp).asks.length≤1000000000:=(h.app _ (bL hi)).asks
theorem lM(a:Ap):lX a=true∧pM a=(live a,()):=zGb (by
 unfold qSI live
 refine aF ?_
 simp only[eG,cB]
 grind)
def rQ(s:Se)(path:B)(label:Int):Vec :=
 s.apps.foldl (fun v a=>bif live a&&qPB a.queue path then fQ v (qF0 a.asks label) else v) gQ
theorem qIf{s:Se}(path:B)(label:Int)(h:dH s):pO s path label=true∧tF s path label=(rQ s path label,()):=qSL (by
 unfold qId
 have hn:=h.apps
 refine jZ s.apps dAp (fun i (v:Vec)=>(i,(v,()),())) _ (fun v=>(v,())) (fun _ _=>True) (fun i b hi _=>⟨trivial,?_⟩) (fun b _=>?_) trivial
 ·have hq:=qNN path (zGC h hi)
  simp only[sS,bB hi,aY hi,aD hi hn,aK,hq.1,hq.2,eH.2 (qYT h hi),fQ,(lM _).1,(lM _).2]
  grind [iB,iV]
 ·simp only[sS,bE])
def qCs(s:Se)(c:Ct):Int:=bif c.master then s.conts.foldl (fun n x=>bif x.app==c.app&&x.id != c.id&&x.label==c.label then w64 (n+x.size.mem) else n) 0 else 0
theorem qWf{s:Se}(c:Ct)(h:dH s):xU s c=true∧qAS s c=(qCs s c,()):=qVP (by
 unfold qKL qCs
 have hn:=h.conts
 cases hm:c.master with
 | true =>
  simp only[cond_true]
  refine jZ s.conts dCt (fun i (v:Int)=>(v,i,())) _ (fun v=>(v,())) (fun _ _=>True) (fun i b hi _=>⟨trivial,?_⟩) (fun b _=>?_) trivial
  ·simp only[sS,bB hi,aY hi,aD hi hn]
   grind [iB,iV]
  ·simp only[sS,bE]
 | false =>
  simp only[cond_false]
  refine DT.pF.2 ⟨1,.inr (0,()),aF ?_,rfl⟩
  simp only[sS]
  grind [iB,iV])
def uF(s:Se)(c:Ct):B:=(aB s c.app).1.queue
def qCt(s:Se)(path:B)(label:Int)(l:List Int):Int :=
 s.conts.foldl (fun n c=>bif c.label==label&&(path==[]||uF s c==path)&&(c.notice != 0||uV l c.id) then w64 (n+c.size.mem) else n) 0
theorem qKX{s:Se}(path:B)(label:Int){l:List Int}(h:dH s)(hl:l.length≤1000000000):oP s path label l=true∧nX s path label l=(qCt s path label l,()):=qVR (by
 unfold qKN
 have hn:=h.conts
 refine jZ s.conts dCt (fun i (v:Int)=>(v,i,())) _ (fun v=>(v,())) (fun _ _=>True) (fun i b hi _=>⟨trivial,?_⟩) (fun b _=>?_) trivial
 ·simp only[sS,bB hi,aY hi,aD hi hn,aK,aM.2 h,eH.2 hl,uF]
  grind [iB,iV]
 ·simp only[sS,bE])
def rR(s:Se)(path:B)(label:Int)(l:List Int)(v:Ct×Bool)(c:Ct):Ct×Bool :=
 bif c.label != label||!(uF s c==path)||c.notice != 0||uV l c.id then v else bif !v.2||v.1.master&&!c.master||v.1.master==c.master&&decide (c.id>v.1.id) then(c,true) else v
def nE(s:Se)(path:B)(label:Int)(l:List Int):Ct×Bool:=s.conts.foldl (rR s path label l) (dCt,false)
theorem qWg{s:Se}(path:B)(label:Int){l:List Int}(h:dH s)(hl:l.length≤1000000000):tH s path label l=true∧rH s path label l=((nE s path label l).1,(nE s path label l).2,()):=qVS (by
 unfold qKO
 have hn:=h.conts
 refine jZ s.conts dCt (fun i (v:Ct×Bool)=>(v.2,i,(v.1,()),())) (rR s path label l) (fun v=>(v.1,v.2,())) (fun _ _=>True) (fun i b hi _=>⟨trivial,?_⟩) (fun b _=>?_) (b0:=(dCt,false)) trivial
 ·simp only[sS,bB hi,aY hi,aD hi hn,aK,aM.2 h,eH.2 hl,uF,rR]
  grind [iB,iV]
 ·simp only[sS,bE])
def oC(a b:Vec):Bool:=decide (a.mem≤b.mem)&&decide (a.cores≤b.cores)
def qPD(l:List Pn)(total:Vec)(p:Pn)(t long:Int):Bool :=
 oC (fQ (qMe l p.label t) p.need) total&&!(l.any fun x=>decide (x.start>t)&&decide (w64 (x.start-t)<long)&&!oC (fQ (qMe l p.label x.start) p.need) total)
theorem zGD{l:List Pn}(total:Vec)(p:Pn)(t long:Int)(hn:l.length≤1000000000):qDq l total p t long=true∧qFJ l total p t long=(qPD l total p t long,()):=zGf (by
 unfold qSN qPD
 refine aH (eH.2 hn) ?_
 simp only[aK]
 refine qMd (fun h1=>qMd (fun h2=>?_) fun h2=>?_) fun h1=>?_
 ·have: oC (fQ (qMe l p.label t) p.need) total=false:=by simp only[oC,fQ];grind
  rw[this,l9];rfl
 ·have: oC (fQ (qMe l p.label t) p.need) total=true:=by simp only[oC,fQ];grind
  rw[this,jl]
  refine qIe l dPn (fun i=>(i,())) (fun x=>decide (x.start>t)&&decide (w64 (x.start-t)<long)&&!oC (fQ (qMe l p.label x.start) p.need) total) (fun b=>(!b,())) (fun i hi=>?_) ?_
  ·simp only[sS,bB hi,aY hi,aD hi hn,eH.2 hn,oC,fQ]
   grind [iB,iV]
  ·simp only[sS,bE]
 ·have: oC (fQ (qMe l p.label t) p.need) total=false:=by simp only[oC,fQ];grind
  rw[this,l9];rfl)
theorem qHv{σ ρ:Type}(n:Nat)(enc:Int→σ){body:σ→DT (σ ⊕ ρ)}{x:ρ}(I:Nat→Prop)(hstep:∀i:Nat,i<n→I i→(I (i+1)∧(body (enc (i:Int))).G (.inl (enc ((i+1:Nat):Int))))∨(body (enc (i:Int))).G (.inr x))
  (hend:I n→(body (enc (n:Int))).G (.inr x)) {i0:Nat} (h0:I i0) (hi0:i0≤n):(DT.loop (enc (i0:Int)) body).G x:=by
 have key:∀(k i:Nat),n-i<k→i≤n→I i→DT.yO (fun s y=>(body s).G y) k (enc (i:Int)) x:=by
  intro k
  induction k with
  | zero=>intro i h;omega
  | succ k ih =>
   intro i hk hi hI
   rcases iw i n with h | h
   ·rcases hstep i h hI with⟨h1,h2⟩ | h2
    ·exact⟨_,h2,ih (i+1) (by omega) (by omega) h1⟩
    ·exact⟨_,h2,rfl⟩
   ·have e:i=n:=by omega
    subst e
    exact⟨_,hend hI,rfl⟩
 exact DT.pF.2 ⟨_,key _ i0 (jy _) hi0 h0⟩
theorem zGE{α:Type}{a b:List α}(d:α)(hl:a.length=b.length)(h:∀j:Nat,j<a.length→a.getD j d=b.getD j d):a=b:=by
 apply List.ext_getElem hl
 intro i h1 h2
 have:= h i h1
 simpa [List.getD,h1,h2] using this
theorem zGF{α σ ρ:Type}[DecidableEq α](a b:List α)(d:α)(hl:a.length=b.length)(enc:Int→σ){body:σ→DT (σ ⊕ ρ)}(g:Bool→ρ)
  (hstep:∀i:Nat,i<a.length→(body (enc (i:Int))).G (if a.getD i d=b.getD i d then .inl (enc ((i+1:Nat):Int)) else .inr (g false)))
  (hend:(body (enc (a.length:Int))).G (.inr (g true))):(DT.loop (enc 0) body).G (g (decide (a=b))):=by
 refine qHv a.length enc (fun i=>∀j:Nat,j<i→a.getD j d=b.getD j d) (fun i hi hI=>?_) (fun hI=>?_) (i0:=0) (fun j hj=>by omega) (cz _)
 ·have h1:=hstep i hi
  by_cases he:a.getD i d=b.getD i d
  ·rw[if_pos he] at h1
   exact .inl ⟨fun j hj=>by
    rcases iw j i with h | h
    ·exact hI j h
    ·have: j=i:=by omega
     subst this;exact he,h1⟩
  ·rw[if_neg he] at h1
   have hne:a≠b:=fun e=>he (by rw[e])
   rw[decide_eq_false hne]
   exact .inr h1
 ·have he:a=b:=zGE d hl hI
  rw[decide_eq_true he]
  exact hend
theorem zGG{α:Type}{a b:List α}(h:((a.length:Int) != (b.length:Int))=true):a≠b:=by
 intro e;subst e;simp at h
theorem qWh{α β:Type}{a:List α}{b:List β}(h:((a.length:Int) != (b.length:Int))=false):a.length=b.length:=by
 simp at h;omega
theorem zMU{a b:Ak}:a=b↔a.prio=b.prio∧a.label=b.label∧a.size.mem=b.size.mem∧a.size.cores=b.size.cores∧a.count=b.count∧a.node=b.node∧a.rack=b.rack∧a.missed=b.missed:=by
 obtain⟨a1,a2,⟨a3,a4⟩,a5,a6,a7,a8⟩:=a
 obtain⟨b1,b2,⟨b3,b4⟩,b5,b6,b7,b8⟩:=b
 simp only[Ak.mk.injEq,Vec.mk.injEq,and_assoc]
theorem zMV{a b:Ap}:a=b↔a.id=b.id∧a.state=b.state∧a.queue=b.queue∧a.user=b.user∧a.prio=b.prio∧(a.master.mem=b.master.mem∧a.master.cores=b.master.cores)∧a.seen=b.seen∧a.beat=b.beat∧a.asks=b.asks∧a.grants=b.grants∧a.kills=b.kills∧a.told=b.told∧a.lost=b.lost:=by
 obtain⟨a1,a2,a3,a4,a5,⟨a6,a7⟩,a8,a9,a10,a11,a12,a13,a14⟩:=a
 obtain⟨b1,b2,b3,b4,b5,⟨b6,b7⟩,b8,b9,b10,b11,b12,b13,b14⟩:=b
 simp only[Ap.mk.injEq,Vec.mk.injEq]
 grind [iB,iV]
end Go.Proofs.YtlmkakccmpncjaaGreatDoor
