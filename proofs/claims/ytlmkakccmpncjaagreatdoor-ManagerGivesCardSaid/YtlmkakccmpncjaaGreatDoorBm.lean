/- Part of the proof: texts By Bz. No conditions. -/
import Derived.Test.YtlmkakccmpncjaaGreatDoorBl
import Derived.Test.YtlmkakccmpncjaaGreatDoorCa
set_option linter.all false
noncomputable section
namespace Go.Proofs.YtlmkakccmpncjaaGreatDoor
open Go Go.W Go.Proofs
open Go.W.DT (ret need br bad loop join)
set_option maxRecDepth 100000
def aP(k n:Int):Int:=bif decide (k.tmod n<0) then w64 (k.tmod n+n) else k.tmod n
theorem jT(k:Int){n:Int}(hn:n≠0):aX k n=true∧bA k n=(aP k n,()):=zBT (by
 unfold qNK aP
 have e:(!decide (n=0))=true:=by simp[hn]
 refine aF ?_
 simp only[dD,eG,cB,jM,e,cond_true]
 cases decide (k.tmod n<0)<;>rfl)
theorem wZ(k:Int){n:Int}(h0:0<n)(hn:n≤1000000000):0≤aP k n∧aP k n<n:=by
 have h1:=Int.tmod_lt_of_pos k h0
 have h2:=Int.lt_tmod_of_pos k h0
 unfold aP
 cases hd:decide (k.tmod n<0) with
 | true =>
  have hd:k.tmod n<0:=by simpa using hd
  simp only[cond_true]
  rw[dI]<;>omega
 | false =>
  have hd:0≤k.tmod n:=by simp at hd;omega
  exact⟨hd,h1⟩
def zHo:List Vec:=[⟨1,1⟩,⟨2,1⟩,⟨4,4⟩,⟨3,2⟩,⟨1,3⟩]
def qT9(n:Int):Vec:=zHo.getD (aP n 5).toNat gQ
theorem qDF{k n:Int}{m:Nat}(hm:n=(m:Int))(h0:0<n)(hn:n≤1000000000):(decide (0≤aP k n)&&decide (aP k n<n))=true∧Nat.blt (aP k n).toNat m=true:=by
 obtain⟨h1,h2⟩:=wZ k h0 hn
 refine⟨by simp[h1,h2],?_⟩
 rw[Nat.blt_eq];omega
theorem qPR(n:Int):qAr n=true∧qBd n=(qT9 n,()):=zKb (by
 unfold qYR qT9
 have hq:=jT n (n:=5) (by decide)
 have hp:=qDF (k:=n) (n:=5) (m:=5) rfl (by decide) (by decide)
 refine aF ?_
 simp only[dD,cB,hq.1,hq.2,dm,hp.1,hp.2,cond_true,zHo])
def kD(c:Cf):List B:=(c.queues.filter fun q=>mP c q.path).map (·.path)
theorem qTA(c:Cf):(kD c).length≤c.queues.length:=by unfold kD;rw[jc];exact gp _ _
theorem qZf{α β:Type}(p:α→Bool)(g:α→β):∀(l:List α) (v:List β),l.foldl (fun v a=>bif p a then v++[g a] else v) v=v++(l.filter p).map g
 | [],v=>by simp
 | a::l,v=>by
  rw[List.foldl,qZf p g l,jq]
  cases p a<;>simp
theorem zCj{c:Cf}(h:CfN 1000000000 c):qBc c=true∧qAq c=(kD c,()):=zBU (by
 unfold qNL
 have hc:cfN 1000000000 c=true:=kU.2 h
 have hn:=h.queues
 have ef:=qZf (fun q:Qu=>mP c q.path) (fun q=>q.path) c.queues []
 rw[l6] at ef
 have e:kD c=_:=ef.symm
 rw[e]
 refine jZ c.queues dQu (fun i (v:List B)=>(v,i,())) (fun v q=>bif mP c q.path then v++[q.path] else v) (fun v=>(v,())) (fun i v=>v.length≤i) (fun i v hi hI=>⟨?_,?_⟩) (fun v hI=>?_) (b0:=[]) (df 0)
 ·have hI:v.length≤i:=hI
  cases mP c (c.queues.getD i dQu).path<;>simp<;>omega
 ·have hI:v.length≤i:=hI
  have e3:aT (v.length+1) 16=true:=dK (by omega) (by decide)
  simp only[sS,aY hi,bB hi,aD hi hn,e3,hc,aK]
  cases mP c (c.queues.getD i dQu).path<;>simp only[sS]
 ·simp only[sS,bE,eB])
def zL3(ns:List Int)(i:Int):Int:=bif (ns.length:Int)==0 then i else ns.getD (i.tmod ns.length).toNat 0
theorem zKn{ns:List Int}{i:Int}(h:0≤i):tN ns i=true∧bQ ns i=(zL3 ns i,()):=zJZ (by
 unfold qYP zL3
 cases hz:(ns.length:Int)==0 with
 | true=>exact aF rfl
 | false =>
  have hz:(ns.length:Int)≠0:=by simpa using hz
  have hp:0<(ns.length:Int):=by omega
  have e1:(!decide ((ns.length:Int)=0))=true:=by simp at hz;simp[hz]
  have e2:ixB (i.tmod (ns.length:Int)) (ns.length:Int)=true:=iT.2 ⟨Int.tmod_nonneg _ h,Int.tmod_lt_of_pos _ hp⟩
  refine aF ?_
  simp only[eG,dD,cB,cond_false,cond_true,e1,e2])
theorem qOi{c:Cf}:∀(n:Nat) (p:B),Deep c n p→(dM c p).2=true→kD c≠[]
 | 0,p,h,_=>h.elim
 | n+1,p,h,hf=>by
  cases hk:fG c p with
  | nil =>
   have hm:=qEH hf
   intro he
   unfold kD at he
   have:= List.filter_eq_nil_iff.1 (List.map_eq_nil_iff.1 he) _ hm.1
   rw[hm.2] at this
   unfold mP at this
   rw[hf,hk] at this
   simp at this
  | cons k ks =>
   have hkm:k∈fG c p:=by rw[hk];exact j4
   obtain⟨_,_,q,hq,e⟩:=rU hkm
   exact qOi n k (h k hkm) (qLs hq e)
def zPc(a:Act)(s:Se):Ak :=
 ⟨aP a.b 5,aP a.c (s.conf.labels.length:Int),qT9 a.d,aP a.d 7,bif a.d.tmod 4==2 then aP a.b 6 else -1,bif a.d.tmod 4==2 then aP a.c 3 else bif a.d.tmod 4==1 then aP a.c 3 else -1,0⟩
def qOj(a:Act)(s:Se):List Ak:=bif decide (a.c.tmod 3>0) then[zPc a s] else[]
def of7(a:Act)(s:Se):Ap:=s.apps.getD (aP a.a (s.apps.length:Int)).toNat dAp
def qH3(a:Act)(s:Se)(v:List Int)(i:Nat):List Int:=bif (s.conts.getD i dCt).app==(of7 a s).id&&aP (w64 (a.d+(i:Int))) 11==10 then v++[(s.conts.getD i dCt).id] else v
def qZg(a:Act)(s:Se):Int:=w64 (w64 ((of7 a s).beat+1)-w64 ((aP a.b 8).tdiv 6))
def qGw(a:Act)(s:Se):Ip :=
 bif (s.apps.length:Int)==0 then⟨5,0,0,0,[],dNd,dAp,[],[],dPn⟩
 else⟨5,(of7 a s).id,qZg a s,0,[],dNd,dAp,qOj a s,(List.range s.conts.length).foldl (qH3 a s) [],dPn⟩
theorem qW2(a:Act)(s:Se)(n:Nat):((List.range n).foldl (qH3 a s) []).length≤n:=by
 induction n with
 | zero=>exact df 0
 | succ n ih =>
  rw[dB]
  generalize (List.range n).foldl (qH3 a s) []=v at ih ⊢
  unfold qH3
  cases (s.conts.getD n dCt).app==(of7 a s).id&&aP (w64 (a.d+(n:Int))) 11==10<;>simp<;>omega
theorem qTB{a:Act}{s:Se}(h:s.conts.length≤100000000):qZc (qGw a s):=by
 unfold qGw
 cases (s.apps.length:Int)==0 with
 | true=>exact⟨cz _,cz _⟩
 | false =>
  refine⟨bq (qW2 a s _) h,?_⟩
  show(qOj a s).length≤100000000
  unfold qOj
  cases decide (a.c.tmod 3>0)<;>simp
theorem zCk{a:Act}{s:Se}(h:dH s)(hl:0<s.conf.labels.length):qBe a s=true∧qDB a s=(qGw a s,()):=zBV (by
 unfold qNM qGw
 cases hz:(s.apps.length:Int)==0 with
 | true=>exact aF rfl
 | false =>
 have hz:(s.apps.length:Int)≠0:=by simpa using hz
 have hn:=h.apps
 have hcn:=h.conts
 have hll:=h.labels
 have q1:=jT a.a hz
 have b1:=wZ a.a (n:=(s.apps.length:Int)) (by omega) (by omega)
 have i1:ixB (aP a.a (s.apps.length:Int)) (s.apps.length:Int)=true:=iT.2 b1
 have q2:=jT a.b (n:=8) (by decide)
 have q3:=jT a.b (n:=5) (by decide)
 have q4:=jT a.c (n:=(s.conf.labels.length:Int)) (by omega)
 have q5:=qPR a.d
 have q6:=jT a.d (n:=7) (by decide)
 have q7:=jT a.c (n:=3) (by decide)
 have q8:=jT a.b (n:=6) (by decide)
 simp only[eY,cond_false,q1.1,q1.2,i1,q2.1,q2.2,q3.1,q3.2,q4.1,q4.2,q5.1,q5.2,q6.1,q6.2,q7.1,q7.2,q8.1,q8.2,aW]
 refine aN ((5,(of7 a s).id,qZg a s,0,[],dNd,dAp,qOj a s,[],dPn,()),()) ?_ ?_
 ·unfold qOj zPc qZg of7
  refine aF ?_
  simp only[eG,dD,cB,jM,cond_true]
  cases decide (a.c.tmod 3>0) with
  | false=>rfl
  | true =>
   cases h1:a.d.tmod 4==1 with
   | false=>cases a.d.tmod 4==2<;>rfl
   | true =>
    have h2:(a.d.tmod 4==2)=false:=by
     have h1:a.d.tmod 4=1:=by simpa using h1
     rw[h1];decide
    rw[h2];rfl
 ·generalize qOj a s=A
  generalize hB:qZg a s=Bt
  clear hB
  have e0:s.apps.getD (aP a.a (s.apps.length:Int)).toNat dAp=of7 a s:=rfl
  simp only[e0]
  have q9:∀k,aX k 11=true∧bA k 11=(aP k 11,()):=fun k=>jT k (by decide)
  refine aH rfl ?_
  refine qIh s.conts.length (fun i (v:List Int)=>(i,(5,(of7 a s).id,Bt,0,[],dNd,dAp,A,v,dPn,()),())) (qH3 a s) (fun v=>(Ip.mk 5 (of7 a s).id Bt 0 [] dNd dAp A v dPn,())) (fun i v=>v.length≤i) (fun i v hi hv=>?_) (fun v hv=>aF ?_) (b0:=[]) (df 0)
  ·have hv:v.length≤i:=hv
   have e3:aT (v.length+1) 8=true:=dK (by omega) (by decide)
   unfold qH3
   have q:=q9 (w64 (a.d+(i:Int)))
   cases hx:(s.conts.getD i dCt).app==(of7 a s).id with
   | false=>exact⟨by simp only[l9,cond_false];omega,aF (by simp only[sS,aY hi,bB hi,aD hi hcn,hx])⟩
   | true =>
    cases hy:aP (w64 (a.d+(i:Int))) 11==10 with
    | false=>exact⟨by simp only[Bool.and_false,cond_false];omega,aF (by simp only[sS,aY hi,bB hi,aD hi hcn,hx,q.1,q.2,hy])⟩
    | true=>exact⟨by simp;omega,aF (by simp only[sS,aY hi,bB hi,aD hi hcn,hx,q.1,q.2,hy,e3])⟩
  ·simp only[sS,bE,eB])
def qBw(a:Act):Int:=aP a.kind 16
def qTC(a:Act):Int:=w64 (1+aP a.b 4)
def qPS(a:Act)(v:Int)(n:Nd):Int:=bif n.id==aP a.a 6 then w64 (w64 (n.beat+1)-w64 ((aP a.b 8).tdiv 6)) else v
def qZh(a:Act)(s:Se):Int:=s.nodes.foldl (qPS a) 0
def qH4(a:Act)(s:Se)(v:List Int)(i:Nat):List Int:=bif (s.conts.getD i dCt).node==aP a.a 6&&aP (w64 (a.c+(i:Int))) 9==8 then v++[(s.conts.getD i dCt).id] else v
def zPd(a:Act)(s:Se):List Int:=(List.range s.conts.length).foldl (qH4 a s) []
def zL4(a:Act):B:=qAx (lZ a.b [a.c,a.d]).1
def qBj(a:Act)(s:Se):Ip :=
 bif (qBw a==0||qBw a==1) then⟨2,aP a.a 6,0,qTC a,[],⟨aP a.a 6,aP a.b (s.conf.labels.length:Int),aP a.c 3,⟨w64 (4+aP a.d 12),w64 (4+aP a.d 8)⟩,0,0,false⟩,dAp,[],[],dPn⟩
 else bif (qBw a==2||(qBw a==3||(qBw a==4||qBw a==5))) then⟨3,aP a.a 6,qZh a s,qTC a,[],dNd,dAp,[],zPd a s,dPn⟩
 else bif (qBw a==6||qBw a==7) then⟨4,aP a.a 6,0,qTC a,[],dNd,⟨aP a.a 20,0,(kD s.conf).getD (aP a.b ((kD s.conf).length:Int)).toNat [],aP a.c 3,aP a.d 3,qT9 (w64 (a.d.tdiv 3)),[],0,0,[],[],[],[]⟩,[],[],dPn⟩
 else bif (qBw a==8||(qBw a==9||qBw a==10)) then qGw a s
 else bif qBw a==11 then⟨[6,7].getD (aP a.b 2).toNat 0,aP a.a 20,0,qTC a,[],dNd,dAp,[],[],dPn⟩
 else bif (qBw a==12||qBw a==13) then⟨8,aP a.a 6,0,w64 (1+aP a.a 5),[],dNd,dAp,[],[],dPn⟩
 else bif qBw a==14 then⟨[9,9,10].getD (aP a.d 3).toNat 0,aP a.a 6,0,w64 (1+aP a.c 12),[],dNd,dAp,[],[],⟨aP a.a 6,aP a.b (s.conf.labels.length:Int),w64 (s.now+aP a.c 5),w64 (s.now+20),qT9 a.d⟩⟩
 else bif qBw a==15 then⟨[11,1,1].getD (aP a.a 3).toNat 0,aP a.a 6,0,qTC a,zL4 a,dNd,dAp,[],[],dPn⟩
 else⟨0,aP a.a 6,0,qTC a,[],dNd,dAp,[],[],dPn⟩
structure qW3:Prop where
 ok:∀(shape:Int) (ns:List Int),qCp shape ns=true
 good:∀(shape:Int) (ns:List Int),qLx (lZ shape ns).1
theorem zCl(a:Act)(s:Se)(n:Nat):((List.range n).foldl (qH4 a s) []).length≤n:=by
 induction n with
 | zero=>exact df 0
 | succ n ih =>
  rw[dB]
  generalize (List.range n).foldl (qH4 a s) []=v at ih ⊢
  unfold qH4
  cases (s.conts.getD n dCt).node==aP a.a 6&&aP (w64 (a.c+(n:Int))) 9==8<;>simp<;>omega
theorem qW4{a:Act}{s:Se}(h:s.conts.length≤100000000):qZc (qBj a s):=by
 have z:∀(k i bt n:Int) (t:B) (nd:Nd) (ap:Ap) (pn:Pn),qZc ⟨k,i,bt,n,t,nd,ap,[],[],pn⟩:=fun _ _ _ _ _ _ _ _=>⟨cz _,cz _⟩
 unfold qBj
 repeat' (first | exact z _ _ _ _ _ _ _ _ | exact qTB h | exact⟨bq (zCl a s _) h,cz _⟩ | (rw[Bool.cond_eq_ite];split))
theorem zNk{α σ:Type}{a b:Bool}{k:Bool×Unit→DT α}{x:α}(h:(k (a||b,())).G x):(join (br a (ret (.inl (true,()))) (ret (.inl (b,()))):DT ((Bool×Unit) ⊕ α)) k).G x:=by
 cases a with
 | true=>exact aN (true,()) rfl h
 | false=>exact aN (b,()) rfl h
theorem zPe{α:Type}{a b c:Bool}{k:Bool×Unit→DT α}{x:α}(h:(k (a||(b||c),())).G x):(join (br a (ret (.inl (true,()))) (br b (ret (.inl (true,()))) (ret (.inl (c,())))):DT ((Bool×Unit) ⊕ α)) k).G x:=by
 cases a with
 | true=>exact aN (true,()) rfl h
 | false=>cases b with
  | true=>exact aN (true,()) rfl h
  | false=>exact aN (c,()) rfl h
theorem zPf{α:Type}{a b c d:Bool}{k:Bool×Unit→DT α}{x:α}(h:(k (a||(b||(c||d)),())).G x):(join (br a (ret (.inl (true,()))) (br b (ret (.inl (true,()))) (br c (ret (.inl (true,()))) (ret (.inl (d,()))))):DT ((Bool×Unit) ⊕ α)) k).G x:=by
 cases a with
 | true=>exact aN (true,()) rfl h
 | false=>cases b with
  | true=>exact aN (true,()) rfl h
  | false=>cases c with
   | true=>exact aN (true,()) rfl h
   | false=>exact aN (d,()) rfl h
theorem zHp{a:Act}{s:Se}(hg:qW3)(h:dH s)(hl:0<s.conf.labels.length)(hv:kD s.conf≠[]):qDC a s=true∧qCq a s=(qBj a s,()):=zGA (by
 unfold qTl
 have hcn:=h.conts
 have hnn:=h.nodes
 have hll:=h.labels
 have hC:CfN 1000000000 s.conf:=⟨h.labels,h.queues,h.qu⟩
 have qL:=zCj hC
 have hlv:0<(kD s.conf).length:=oh.2 hv
 have hlv2:(kD s.conf).length≤1000000000:=bq (qTA _) h.queues
 have w:∀(k:Int) {n:Int},n≠0→aX k n=true∧bA k n=(aP k n,()):=fun k _ hn=>jT k hn
 have a6:=w a.a (n:=6) (by decide)
 have b4:=w a.b (n:=4) (by decide)
 have k16:=w a.kind (n:=16) (by decide)
 have bl:=w a.b (n:=(s.conf.labels.length:Int)) (by omega)
 have c3:=w a.c (n:=3) (by decide)
 have d12:=w a.d (n:=12) (by decide)
 have d8:=w a.d (n:=8) (by decide)
 have b8:=w a.b (n:=8) (by decide)
 have a20:=w a.a (n:=20) (by decide)
 have blv:=w a.b (n:=((kD s.conf).length:Int)) (by omega)
 have d3:=w a.d (n:=3) (by decide)
 have b2:=w a.b (n:=2) (by decide)
 have a5:=w a.a (n:=5) (by decide)
 have c5:=w a.c (n:=5) (by decide)
 have c12:=w a.c (n:=12) (by decide)
 have a3:=w a.a (n:=3) (by decide)
 have p2:=qDF (k:=a.b) (n:=2) (m:=2) rfl (by decide) (by decide)
 have p3:=qDF (k:=a.d) (n:=3) (m:=3) rfl (by decide) (by decide)
 have pa3:=qDF (k:=a.a) (n:=3) (m:=3) rfl (by decide) (by decide)
 have plv:ixB (aP a.b ((kD s.conf).length:Int)) ((kD s.conf).length:Int)=true:=iT.2 (wZ a.b (by omega) (by omega))
 have s1:=qPR (w64 (a.d.tdiv 3))
 have s2:=qPR a.d
 have qM:=zCk (a:=a) h hl
 have g1:=hg.ok a.b [a.c,a.d]
 have g2:=qZe (hg.good a.b [a.c,a.d])
 simp only[a6.1,a6.2,b4.1,b4.2,k16.1,k16.2,qL.1,qL.2,bl.1,bl.2,c3.1,c3.2,d12.1,d12.2,d8.1,d8.2,b8.1,b8.2,a20.1,a20.2,blv.1,blv.2,d3.1,d3.2,b2.1,b2.2,a5.1,a5.2,c5.1,c5.2,c12.1,c12.2,a3.1,a3.2,dm,p2.1,p2.2,p3.1,p3.2,pa3.1,pa3.2,plv,s1.1,s1.2,s2.1,s2.2,qM.1,qM.2,g1,g2.1.1,g2.1.2,aW]
 unfold qBj
 have ek:aP a.kind 16=qBw a:=rfl
 have en:w64 (1+aP a.b 4)=qTC a:=rfl
 have ec:qAx (lZ a.b [a.c,a.d]).1=zL4 a:=rfl
 simp only[ek,en,ec]
 generalize qBw a=k
 refine zNk (σ:=Unit) ?_
 cases (k==0||k==1) with
 | true=>exact aF rfl
 | false =>
 simp only[eY,cond_false]
 refine zPf ?_
 cases (k==2||(k==3||(k==4||k==5))) with
 | true =>
  simp only[jQ,cond_true]
  generalize hN:qTC a=N
  have q9:∀k,aX k 9=true∧bA k 9=(aP k 9,()):=fun k=>jT k (by decide)
  refine aN ((3,aP a.a 6,qZh a s,N,[],dNd,dAp,[],[],dPn,()),()) ?_ (aH rfl ?_)
  ·refine jZ s.nodes dNd (fun i (v:Int)=>(i,(3,aP a.a 6,v,N,[],dNd,dAp,[],[],dPn,()),())) (qPS a) (fun v=>Sum.inl ((3,aP a.a 6,v,N,[],dNd,dAp,[],[],dPn,()),())) (fun _ _=>True) (fun i v hi _=>⟨trivial,?_⟩) (fun v _=>?_) (b0:=0) trivial
   ·unfold qPS
    simp only[sS,aY hi,bB hi,aD hi hnn]
    cases (s.nodes.getD i dNd).id==aP a.a 6<;>rfl
   ·simp only[sS,bE]
  ·generalize qZh a s=Bt
   refine qIh s.conts.length (fun i (v:List Int)=>(i,(3,aP a.a 6,Bt,N,[],dNd,dAp,[],v,dPn,()),())) (qH4 a s) (fun v=>(Ip.mk 3 (aP a.a 6) Bt N [] dNd dAp [] v dPn,())) (fun i v=>v.length≤i) (fun i v hi hv=>?_) (fun v hv=>aF ?_) (b0:=[]) (df 0)
   ·have hv:v.length≤i:=hv
    have e3:aT (v.length+1) 8=true:=dK (by omega) (by decide)
    unfold qH4
    have q:=q9 (w64 (a.c+(i:Int)))
    cases hx:(s.conts.getD i dCt).node==aP a.a 6 with
    | false=>exact⟨by simp only[l9,cond_false];omega,aF (by simp only[sS,aY hi,bB hi,aD hi hcn,hx])⟩
    | true =>
     cases hy:aP (w64 (a.c+(i:Int))) 9==8 with
     | false=>exact⟨by simp only[Bool.and_false,cond_false];omega,aF (by simp only[sS,aY hi,bB hi,aD hi hcn,hx,q.1,q.2,hy])⟩
     | true=>exact⟨by simp;omega,aF (by simp only[sS,aY hi,bB hi,aD hi hcn,hx,q.1,q.2,hy,e3])⟩
   ·simp only[sS,bE,eB]
 | false =>
 simp only[eY,cond_false]
 refine zNk (σ:=Unit) ?_
 cases (k==6||k==7) with
 | true=>exact aF rfl
 | false =>
 simp only[eY,cond_false]
 refine zPe ?_
 cases (k==8||(k==9||k==10)) with
 | true=>exact aF rfl
 | false =>
 simp only[eY,cond_false]
 cases k==11 with
 | true=>exact aF rfl
 | false =>
 simp only[eY,cond_false]
 refine zNk (σ:=Unit) ?_
 cases (k==12||k==13) with
 | true=>exact aF rfl
 | false =>
 simp only[eY,cond_false]
 cases k==14 with
 | true=>exact aF rfl
 | false =>
 simp only[eY,cond_false]
 cases k==15 with
 | true=>exact aF rfl
 | false=>exact aF rfl)
end Go.Proofs.YtlmkakccmpncjaaGreatDoor
