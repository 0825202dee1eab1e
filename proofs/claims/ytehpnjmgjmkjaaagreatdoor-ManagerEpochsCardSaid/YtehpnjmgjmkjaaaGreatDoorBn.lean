/- Part of the proof. No conditions. -/
import Derived.Test.YtehpnjmgjmkjaaaGreatDoorBl
import Derived.Test.YtehpnjmgjmkjaaaGreatDoorCb
noncomputable section
namespace Go.Proofs.YtehpnjmgjmkjaaaGreatDoor
open Go Go.W Go.Proofs
open Go.W.DT (ret need br bad loop join)
set_option maxRecDepth 100000
def aV(k n:Int):Int:=bif decide (k.tmod n<0) then w64 (k.tmod n+n) else k.tmod n
theorem jQ(k:Int){n:Int}(hn:n≠0):bA k n=true∧aI k n=(aV k n,()):=zAE (by
 unfold qOs aV
 have e:(!decide (n=0))=true:=by simp[hn]
 refine aF ?_
 simp only[dN,fC,dE,jJ,e,cond_true]
 cases decide (k.tmod n<0)<;>rfl)
theorem qAX(k:Int){n:Int}(h0:0<n)(hn:n≤1000000000):0≤aV k n∧aV k n<n:=by
 have h1:=Int.tmod_lt_of_pos k h0
 have h2:=Int.lt_tmod_of_pos k h0
 unfold aV
 cases hd:decide (k.tmod n<0) with
 | true =>
  have hd:k.tmod n<0:=by simpa using hd
  simp only[cond_true]
  rw[fE]<;>omega
 | false =>
  have hd:0≤k.tmod n:=by simp at hd;omega
  exact⟨hd,h1⟩
def zF5:List Vec:=[⟨1,1⟩,⟨2,1⟩,⟨4,4⟩,⟨3,2⟩,⟨1,3⟩]
def qTS(n:Int):Vec:=zF5.getD (aV n 5).toNat gG
theorem qDw{k n:Int}{m:Nat}(hm:n=(m:Int))(h0:0<n)(hn:n≤1000000000):(decide (0≤aV k n)&&decide (aV k n<n))=true∧Nat.blt (aV k n).toNat m=true:=by
 obtain⟨h1,h2⟩:=qAX k h0 hn
 refine⟨by simp[h1,h2],?_⟩
 rw[Nat.blt_eq];omega
theorem qQ6(n:Int):qAa n=true∧qAR n=(qTS n,()):=zHA (by
 unfold qYx qTS
 have hq:=jQ n (n:=5) (by decide)
 have hp:=qDw (k:=n) (n:=5) (m:=5) rfl (by decide) (by decide)
 refine aF ?_
 simp only[dN,dE,hq.1,hq.2,Nat.zero_add,hp.1,hp.2,cond_true,zF5])
def kG(c:Cf):List B:=(c.queues.filter fun q=>nA c q.path).map (·.path)
theorem qTT(c:Cf):(kG c).length≤c.queues.length:=by unfold kG;rw[List.length_map];exact List.length_filter_le _ _
theorem qYD{α β:Type}(p:α→Bool)(g:α→β):∀(l:List α) (v:List β),l.foldl (fun v a=>bif p a then v++[g a] else v) v=v++(l.filter p).map g
 | [],v=>by simp
 | a::l,v=>by
  rw[List.foldl,qYD p g l,List.filter_cons]
  cases p a<;>simp
theorem zAU{c:Cf}(h:CfN 1000000000 c):qAP c=true∧pE c=(kG c,()):=zAF (by
 unfold qOt
 have hc:cfN 1000000000 c=true:=kW.2 h
 have hn:=h.queues
 have ef:=qYD (fun q:Qu=>nA c q.path) (fun q=>q.path) c.queues []
 rw[List.nil_append] at ef
 have e:kG c=_:=ef.symm
 rw[e]
 refine kF c.queues dQu (fun i (v:List B)=>(v,i,())) (fun v q=>bif nA c q.path then v++[q.path] else v) (fun v=>(v,())) (fun i v=>v.length≤i) (fun i v hi hI=>⟨?_,?_⟩) (fun v hI=>?_) (b0:=[]) (Nat.le_refl 0)
 ·have hI:v.length≤i:=hI
  cases nA c (c.queues.getD i dQu).path<;>simp<;>omega
 ·have hI:v.length≤i:=hI
  have e3:aX (v.length+1) 16=true:=eF (by omega) (by decide)
  simp only[sS,bF hi,bG hi,aG hi hn,e3,hc,aN]
  cases nA c (c.queues.getD i dQu).path<;>simp only[sS]
 ·simp only[sS,bM])
def zID(ns:List Int)(i:Int):Int:=bif (ns.length:Int)==0 then i else ns.getD (i.tmod ns.length).toNat 0
theorem zHM{ns:List Int}{i:Int}(h:0≤i):sU ns i=true∧bR ns i=(zID ns i,()):=zH8 (by
 unfold qYv zID
 cases hz:(ns.length:Int)==0 with
 | true=>exact aF rfl
 | false =>
  have hz:(ns.length:Int)≠0:=by simpa using hz
  have hp:0<(ns.length:Int):=by omega
  have e1:(!decide ((ns.length:Int)=0))=true:=by simp at hz;simp[hz]
  have e2:ixB (i.tmod (ns.length:Int)) (ns.length:Int)=true:=gZ.2 ⟨Int.tmod_nonneg _ h,Int.tmod_lt_of_pos _ hp⟩
  refine aF ?_
  simp only[fC,dN,dE,cond_false,cond_true,e1,e2])
theorem qOE{c:Cf}:∀(n:Nat) (p:B),Deep c n p→(dO c p).2=true→kG c≠[]
 | 0,p,h,_=>h.elim
 | n+1,p,h,hf=>by
  cases hk:bO c p with
  | nil =>
   have hm:=qE0 hf
   intro he
   unfold kG at he
   have:= List.filter_eq_nil_iff.1 (List.map_eq_nil_iff.1 he) _ hm.1
   rw[hm.2] at this
   unfold nA at this
   rw[hf,hk] at this
   simp at this
  | cons k ks =>
   have hkm:k∈bO c p:=by rw[hk];exact List.mem_cons_self
   obtain⟨_,_,q,hq,e⟩:=rE hkm
   exact qOE n k (h k hkm) (qLQ hq e)
def zLK(a:Act)(s:Se):Ak :=
 ⟨aV a.b 5,aV a.c (s.conf.labels.length:Int),qTS a.d,aV a.d 7,bif a.d.tmod 4==2 then aV a.b 6 else -1,bif a.d.tmod 4==2 then aV a.c 3 else bif a.d.tmod 4==1 then aV a.c 3 else -1,0⟩
def qOF(a:Act)(s:Se):List Ak:=bif decide (a.c.tmod 3>0) then[zLK a s] else[]
def of7(a:Act)(s:Se):Ap:=s.apps.getD (aV a.a (s.apps.length:Int)).toNat dAp
def qHc(a:Act)(s:Se)(v:List Int)(i:Nat):List Int:=bif (s.conts.getD i dCt).app==(of7 a s).id&&aV (w64 (a.d+(i:Int))) 11==10 then v++[(s.conts.getD i dCt).id] else v
def qYE(a:Act)(s:Se):Int:=w64 (w64 ((of7 a s).beat+1)-w64 ((aV a.b 8).tdiv 6))
def qFN(a:Act)(s:Se):Ip :=
 bif (s.apps.length:Int)==0 then⟨5,0,0,0,[],dNd,dAp,[],[],dPn⟩
 else⟨5,(of7 a s).id,qYE a s,0,[],dNd,dAp,qOF a s,(List.range s.conts.length).foldl (qHc a s) [],dPn⟩
theorem qWs(a:Act)(s:Se)(n:Nat):((List.range n).foldl (qHc a s) []).length≤n:=by
 induction n with
 | zero=>exact Nat.le_refl 0
 | succ n ih =>
  rw[dK]
  generalize (List.range n).foldl (qHc a s) []=v at ih ⊢
  unfold qHc
  cases (s.conts.getD n dCt).app==(of7 a s).id&&aV (w64 (a.d+(n:Int))) 11==10<;>simp<;>omega
theorem qTU{a:Act}{s:Se}(h:s.conts.length≤100000000):qYA (qFN a s):=by
 unfold qFN
 cases (s.apps.length:Int)==0 with
 | true=>exact⟨Nat.zero_le _,Nat.zero_le _⟩
 | false =>
  refine⟨Nat.le_trans (qWs a s _) h,?_⟩
  show(qOF a s).length≤100000000
  unfold qOF
  cases decide (a.c.tmod 3>0)<;>simp
theorem zAV{a:Act}{s:Se}(h:dV s)(hl:0<s.conf.labels.length):qAS a s=true∧qDr a s=(qFN a s,()):=zAG (by
 unfold qOu qFN
 cases hz:(s.apps.length:Int)==0 with
 | true=>exact aF rfl
 | false =>
 have hz:(s.apps.length:Int)≠0:=by simpa using hz
 have hn:=h.apps
 have hcn:=h.conts
 have hll:=h.labels
 have q1:=jQ a.a hz
 have b1:=qAX a.a (n:=(s.apps.length:Int)) (by omega) (by omega)
 have i1:ixB (aV a.a (s.apps.length:Int)) (s.apps.length:Int)=true:=gZ.2 b1
 have q2:=jQ a.b (n:=8) (by decide)
 have q3:=jQ a.b (n:=5) (by decide)
 have q4:=jQ a.c (n:=(s.conf.labels.length:Int)) (by omega)
 have q5:=qQ6 a.d
 have q6:=jQ a.d (n:=7) (by decide)
 have q7:=jQ a.c (n:=3) (by decide)
 have q8:=jQ a.b (n:=6) (by decide)
 simp only[fI,cond_false,q1.1,q1.2,i1,q2.1,q2.2,q3.1,q3.2,q4.1,q4.2,q5.1,q5.2,q6.1,q6.2,q7.1,q7.2,q8.1,q8.2,bH]
 refine aT ((5,(of7 a s).id,qYE a s,0,[],dNd,dAp,qOF a s,[],dPn,()),()) ?_ ?_
 ·unfold qOF zLK qYE of7
  refine aF ?_
  simp only[fC,dN,dE,jJ,cond_true]
  cases decide (a.c.tmod 3>0) with
  | false=>rfl
  | true =>
   cases h1:a.d.tmod 4==1 with
   | false=>cases a.d.tmod 4==2<;>rfl
   | true =>
    have h2:(a.d.tmod 4==2)=false:=by
     have h1:a.d.tmod 4=1:=by simpa using h1
     rw[h1];decide
    rw[h2];rfl
 ·generalize qOF a s=A
  generalize hB:qYE a s=Bt
  clear hB
  have e0:s.apps.getD (aV a.a (s.apps.length:Int)).toNat dAp=of7 a s:=rfl
  simp only[e0]
  have q9:∀k,bA k 11=true∧aI k 11=(aV k 11,()):=fun k=>jQ k (by decide)
  refine bB rfl ?_
  refine qHS s.conts.length (fun i (v:List Int)=>(i,(5,(of7 a s).id,Bt,0,[],dNd,dAp,A,v,dPn,()),())) (qHc a s) (fun v=>(Ip.mk 5 (of7 a s).id Bt 0 [] dNd dAp A v dPn,())) (fun i v=>v.length≤i) (fun i v hi hv=>?_) (fun v hv=>aF ?_) (b0:=[]) (Nat.le_refl 0)
  ·have hv:v.length≤i:=hv
   have e3:aX (v.length+1) 8=true:=eF (by omega) (by decide)
   unfold qHc
   have q:=q9 (w64 (a.d+(i:Int)))
   cases hx:(s.conts.getD i dCt).app==(of7 a s).id with
   | false=>exact⟨by simp only[Bool.false_and,cond_false];omega,aF (by simp only[sS,bF hi,bG hi,aG hi hcn,hx])⟩
   | true =>
    cases hy:aV (w64 (a.d+(i:Int))) 11==10 with
    | false=>exact⟨by simp only[Bool.and_false,cond_false];omega,aF (by simp only[sS,bF hi,bG hi,aG hi hcn,hx,q.1,q.2,hy])⟩
    | true=>exact⟨by simp;omega,aF (by simp only[sS,bF hi,bG hi,aG hi hcn,hx,q.1,q.2,hy,e3])⟩
  ·simp only[sS,bM])
def qBj(a:Act):Int:=aV a.kind 16
def qTV(a:Act):Int:=w64 (1+aV a.b 4)
def qWt(a:Act)(v:Int)(n:Nd):Int:=bif n.id==aV a.a 6 then w64 (w64 (n.beat+1)-w64 ((aV a.b 8).tdiv 6)) else v
def zF6(a:Act)(s:Se):Int:=s.nodes.foldl (qWt a) 0
def qHd(a:Act)(s:Se)(v:List Int)(i:Nat):List Int:=bif (s.conts.getD i dCt).node==aV a.a 6&&aV (w64 (a.c+(i:Int))) 9==8 then v++[(s.conts.getD i dCt).id] else v
def zLL(a:Act)(s:Se):List Int:=(List.range s.conts.length).foldl (qHd a s) []
def zIE(a:Act):B:=qAe (iW a.b [a.c,a.d]).1
def qE1(a:Act)(s:Se):Ip :=
 bif (qBj a==0||qBj a==1) then⟨2,aV a.a 6,0,qTV a,[],⟨aV a.a 6,aV a.b (s.conf.labels.length:Int),aV a.c 3,⟨w64 (4+aV a.d 12),w64 (4+aV a.d 8)⟩,0,0,false⟩,dAp,[],[],dPn⟩
 else bif (qBj a==2||(qBj a==3||(qBj a==4||qBj a==5))) then⟨3,aV a.a 6,zF6 a s,qTV a,[],dNd,dAp,[],zLL a s,dPn⟩
 else bif (qBj a==6||qBj a==7) then⟨4,aV a.a 6,0,qTV a,[],dNd,⟨aV a.a 20,0,(kG s.conf).getD (aV a.b ((kG s.conf).length:Int)).toNat [],aV a.c 3,aV a.d 3,qTS (w64 (a.d.tdiv 3)),[],0,0,[],[],[],[]⟩,[],[],dPn⟩
 else bif (qBj a==8||(qBj a==9||qBj a==10)) then qFN a s
 else bif qBj a==11 then⟨[6,7].getD (aV a.b 2).toNat 0,aV a.a 20,0,qTV a,[],dNd,dAp,[],[],dPn⟩
 else bif (qBj a==12||qBj a==13) then⟨8,aV a.a 6,0,w64 (1+aV a.a 5),[],dNd,dAp,[],[],dPn⟩
 else bif qBj a==14 then⟨[9,9,10].getD (aV a.d 3).toNat 0,aV a.a 6,0,w64 (1+aV a.c 12),[],dNd,dAp,[],[],⟨aV a.a 6,aV a.b (s.conf.labels.length:Int),w64 (s.now+aV a.c 5),w64 (s.now+20),qTS a.d⟩⟩
 else bif qBj a==15 then⟨[11,1,1].getD (aV a.a 3).toNat 0,aV a.a 6,0,qTV a,zIE a,dNd,dAp,[],[],dPn⟩
 else⟨0,aV a.a 6,0,qTV a,[],dNd,dAp,[],[],dPn⟩
structure qWu:Prop where
 ok:∀(shape:Int) (ns:List Int),qBY shape ns=true
 good:∀(shape:Int) (ns:List Int),qLV (iW shape ns).1
theorem zAW(a:Act)(s:Se)(n:Nat):((List.range n).foldl (qHd a s) []).length≤n:=by
 induction n with
 | zero=>exact Nat.le_refl 0
 | succ n ih =>
  rw[dK]
  generalize (List.range n).foldl (qHd a s) []=v at ih ⊢
  unfold qHd
  cases (s.conts.getD n dCt).node==aV a.a 6&&aV (w64 (a.c+(n:Int))) 9==8<;>simp<;>omega
theorem qWv{a:Act}{s:Se}(h:s.conts.length≤100000000):qYA (qE1 a s):=by
 have z:∀(k i bt n:Int) (t:B) (nd:Nd) (ap:Ap) (pn:Pn),qYA ⟨k,i,bt,n,t,nd,ap,[],[],pn⟩:=fun _ _ _ _ _ _ _ _=>⟨Nat.zero_le _,Nat.zero_le _⟩
 unfold qE1
 repeat' (first | exact z _ _ _ _ _ _ _ _ | exact qTU h | exact⟨Nat.le_trans (zAW a s _) h,Nat.zero_le _⟩ | (rw[Bool.cond_eq_ite];split))
theorem zKm{α _σ:Type}{a b:Bool}{k:Bool×Unit→DT α}{x:α}(h:(k (a||b,())).G x):(join (br a (ret (.inl (true,()))) (ret (.inl (b,()))):DT ((Bool×Unit) ⊕ α)) k).G x:=by
 cases a with
 | true=>exact aT (true,()) rfl h
 | false=>exact aT (b,()) rfl h
theorem zLM{α:Type}{a b c:Bool}{k:Bool×Unit→DT α}{x:α}(h:(k (a||(b||c),())).G x):(join (br a (ret (.inl (true,()))) (br b (ret (.inl (true,()))) (ret (.inl (c,())))):DT ((Bool×Unit) ⊕ α)) k).G x:=by
 cases a with
 | true=>exact aT (true,()) rfl h
 | false=>cases b with
  | true=>exact aT (true,()) rfl h
  | false=>exact aT (c,()) rfl h
theorem zLN{α:Type}{a b c d:Bool}{k:Bool×Unit→DT α}{x:α}(h:(k (a||(b||(c||d)),())).G x):(join (br a (ret (.inl (true,()))) (br b (ret (.inl (true,()))) (br c (ret (.inl (true,()))) (ret (.inl (d,()))))):DT ((Bool×Unit) ⊕ α)) k).G x:=by
 cases a with
 | true=>exact aT (true,()) rfl h
 | false=>cases b with
  | true=>exact aT (true,()) rfl h
  | false=>cases c with
   | true=>exact aT (true,()) rfl h
   | false=>exact aT (d,()) rfl h
theorem zF7{a:Act}{s:Se}(hg:qWu)(h:dV s)(hl:0<s.conf.labels.length)(hv:kG s.conf≠[]):qDs a s=true∧qBZ a s=(qE1 a s,()):=zES (by
 unfold qT4
 have hcn:=h.conts
 have hnn:=h.nodes
 have hll:=h.labels
 have hC:CfN 1000000000 s.conf:=⟨h.labels,h.queues,h.qu⟩
 have qL:=zAU hC
 have hlv:0<(kG s.conf).length:=List.length_pos_iff.2 hv
 have hlv2:(kG s.conf).length≤1000000000:=Nat.le_trans (qTT _) h.queues
 have w:∀(k:Int) {n:Int},n≠0→bA k n=true∧aI k n=(aV k n,()):=fun k _ hn=>jQ k hn
 have a6:=w a.a (n:=6) (by decide)
 have b4:=w a.b (n:=4) (by decide)
 have k16:=w a.kind (n:=16) (by decide)
 have bl:=w a.b (n:=(s.conf.labels.length:Int)) (by omega)
 have c3:=w a.c (n:=3) (by decide)
 have d12:=w a.d (n:=12) (by decide)
 have d8:=w a.d (n:=8) (by decide)
 have b8:=w a.b (n:=8) (by decide)
 have a20:=w a.a (n:=20) (by decide)
 have blv:=w a.b (n:=((kG s.conf).length:Int)) (by omega)
 have d3:=w a.d (n:=3) (by decide)
 have b2:=w a.b (n:=2) (by decide)
 have a5:=w a.a (n:=5) (by decide)
 have c5:=w a.c (n:=5) (by decide)
 have c12:=w a.c (n:=12) (by decide)
 have a3:=w a.a (n:=3) (by decide)
 have p2:=qDw (k:=a.b) (n:=2) (m:=2) rfl (by decide) (by decide)
 have p3:=qDw (k:=a.d) (n:=3) (m:=3) rfl (by decide) (by decide)
 have pa3:=qDw (k:=a.a) (n:=3) (m:=3) rfl (by decide) (by decide)
 have plv:ixB (aV a.b ((kG s.conf).length:Int)) ((kG s.conf).length:Int)=true:=gZ.2 (qAX a.b (by omega) (by omega))
 have s1:=qQ6 (w64 (a.d.tdiv 3))
 have s2:=qQ6 a.d
 have qM:=zAV (a:=a) h hl
 have g1:=hg.ok a.b [a.c,a.d]
 have g2:=qYC (hg.good a.b [a.c,a.d])
 simp only[a6.1,a6.2,b4.1,b4.2,k16.1,k16.2,qL.1,qL.2,bl.1,bl.2,c3.1,c3.2,d12.1,d12.2,d8.1,d8.2,b8.1,b8.2,a20.1,a20.2,blv.1,blv.2,d3.1,d3.2,b2.1,b2.2,a5.1,a5.2,c5.1,c5.2,c12.1,c12.2,a3.1,a3.2,Nat.zero_add,p2.1,p2.2,p3.1,p3.2,pa3.1,pa3.2,plv,s1.1,s1.2,s2.1,s2.2,qM.1,qM.2,g1,g2.1.1,g2.1.2,bH]
 unfold qE1
 have ek:aV a.kind 16=qBj a:=rfl
 have en:w64 (1+aV a.b 4)=qTV a:=rfl
 have ec:qAe (iW a.b [a.c,a.d]).1=zIE a:=rfl
 simp only[ek,en,ec]
 generalize qBj a=k
 refine zKm (_σ:=Unit) ?_
 cases (k==0||k==1) with
 | true=>exact aF rfl
 | false =>
 simp only[fI,cond_false]
 refine zLN ?_
 cases (k==2||(k==3||(k==4||k==5))) with
 | true =>
  simp only[jP,cond_true]
  generalize hN:qTV a=N
  have q9:∀k,bA k 9=true∧aI k 9=(aV k 9,()):=fun k=>jQ k (by decide)
  refine aT ((3,aV a.a 6,zF6 a s,N,[],dNd,dAp,[],[],dPn,()),()) ?_ (bB rfl ?_)
  ·refine kF s.nodes dNd (fun i (v:Int)=>(i,(3,aV a.a 6,v,N,[],dNd,dAp,[],[],dPn,()),())) (qWt a) (fun v=>Sum.inl ((3,aV a.a 6,v,N,[],dNd,dAp,[],[],dPn,()),())) (fun _ _=>True) (fun i v hi _=>⟨trivial,?_⟩) (fun v _=>?_) (b0:=0) trivial
   ·unfold qWt
    simp only[sS,bF hi,bG hi,aG hi hnn]
    cases (s.nodes.getD i dNd).id==aV a.a 6<;>rfl
   ·simp only[sS,bM]
  ·generalize zF6 a s=Bt
   refine qHS s.conts.length (fun i (v:List Int)=>(i,(3,aV a.a 6,Bt,N,[],dNd,dAp,[],v,dPn,()),())) (qHd a s) (fun v=>(Ip.mk 3 (aV a.a 6) Bt N [] dNd dAp [] v dPn,())) (fun i v=>v.length≤i) (fun i v hi hv=>?_) (fun v hv=>aF ?_) (b0:=[]) (Nat.le_refl 0)
   ·have hv:v.length≤i:=hv
    have e3:aX (v.length+1) 8=true:=eF (by omega) (by decide)
    unfold qHd
    have q:=q9 (w64 (a.c+(i:Int)))
    cases hx:(s.conts.getD i dCt).node==aV a.a 6 with
    | false=>exact⟨by simp only[Bool.false_and,cond_false];omega,aF (by simp only[sS,bF hi,bG hi,aG hi hcn,hx])⟩
    | true =>
     cases hy:aV (w64 (a.c+(i:Int))) 9==8 with
     | false=>exact⟨by simp only[Bool.and_false,cond_false];omega,aF (by simp only[sS,bF hi,bG hi,aG hi hcn,hx,q.1,q.2,hy])⟩
     | true=>exact⟨by simp;omega,aF (by simp only[sS,bF hi,bG hi,aG hi hcn,hx,q.1,q.2,hy,e3])⟩
   ·simp only[sS,bM]
 | false =>
 simp only[fI,cond_false]
 refine zKm (_σ:=Unit) ?_
 cases (k==6||k==7) with
 | true=>exact aF rfl
 | false =>
 simp only[fI,cond_false]
 refine zLM ?_
 cases (k==8||(k==9||k==10)) with
 | true=>exact aF rfl
 | false =>
 simp only[fI,cond_false]
 cases k==11 with
 | true=>exact aF rfl
 | false =>
 simp only[fI,cond_false]
 refine zKm (_σ:=Unit) ?_
 cases (k==12||k==13) with
 | true=>exact aF rfl
 | false =>
 simp only[fI,cond_false]
 cases k==14 with
 | true=>exact aF rfl
 | false =>
 simp only[fI,cond_false]
 cases k==15 with
 | true=>exact aF rfl
 | false=>exact aF rfl)
end Go.Proofs.YtehpnjmgjmkjaaaGreatDoor
end
noncomputable section
namespace Go.Proofs.YtehpnjmgjmkjaaaGreatDoor
open Go Go.W Go.Proofs
open Go.W.DT (ret need br bad loop join)
set_option maxRecDepth 100000
structure Whole(c:Cf):Prop where
 labels:0<c.labels.length
 leaf:kG c≠[]
theorem qFO{c:Cf}(h:tO c=0):Whole c:=by
 obtain⟨h1,h2,h3,h4⟩:=qFI h
 have hg:=(qCw h).1
 refine⟨?_,qOE 6 fG hg.deep (qLQ (bT (d:=dQu) h2) h3)⟩
 unfold rU at h1
 cases hx:decide ((c.labels.length:Int)<1)||decide ((c.labels.length:Int)>3)||decide ((c.queues.length:Int)>16) with
 | true=>rw[hx] at h1;simp at h1
 | false=>simp at hx;omega
theorem qM4(s:Se)(text:B):(nR s text).1.conf=s.conf∨tO (nR s text).1.conf=0:=by
 unfold nR
 cases he:nV text != 0 with
 | true=>exact .inl rfl
 | false =>
 cases decide (((fO text).1.labels.length:Int)<(s.conf.labels.length:Int)) with
 | true=>exact .inl rfl
 | false =>
 cases (List.range' 0 (s.conf.labels.length-0)).any (fun i=>!((fO text).1.labels.getD i []==s.conf.labels.getD i [])) with
 | true=>exact .inl rfl
 | false =>
 cases s.apps.any (fun a=>live a&&!nA (fO text).1 a.queue) with
 | true=>exact .inl rfl
 | false =>
  right
  have he:nV text=0:=by simpa using he
  unfold nV at he
  cases hz:(fO text).2.1==0 with
  | true=>rw[hz] at he;exact he
  | false=>rw[hz] at he;simp at he hz;exact absurd he hz
theorem qTW{b:Nat}{s:Se}(x:Ip)(h:qCz b s)(hb:b≤80000000):(mE s x).1.conf=s.conf∨tO (mE s x).1.conf=0:=by
 have K:=h.keep
 unfold mE
 cases x.kind==1 with
 | true=>exact qM4 s x.text
 | false =>
 cases x.kind==2 with
 | true=>exact .inl (wF x.node K).conf
 | false =>
 cases x.kind==3 with
 | true=>exact .inl (qCp x K).conf
 | false =>
 cases x.kind==4 with
 | true=>exact .inl (yH x.app K).conf
 | false =>
 cases x.kind==5 with
 | true=>exact .inl (yG x K).conf
 | false =>
 cases x.kind==6 with
 | true=>exact .inl (pF x.id 3 K).conf
 | false =>
 cases x.kind==7 with
 | true=>exact .inl (pF x.id 4 K).conf
 | false =>
 cases x.kind==8 with
 | true=>exact .inl (qCq x.n K (by omega)).conf
 | false =>
 cases x.kind==9 with
 | true=>exact .inl (qEy x.plan x.n K).conf
 | false =>
 cases x.kind==10 with
 | true=>exact .inl (qCs x.id K).conf
 | false =>
 cases x.kind==11 with
 | false=>exact .inl rfl
 | true=>cases decide (s.epoch≥1048576)<;>exact .inl rfl
theorem qTX(s:Se)(text:B):(nR s text).1.epoch=s.epoch:=by
 unfold nR
 cases nV text != 0 with
 | true=>rfl
 | false =>
 cases decide (((fO text).1.labels.length:Int)<(s.conf.labels.length:Int)) with
 | true=>rfl
 | false =>
 cases (List.range' 0 (s.conf.labels.length-0)).any (fun i=>!((fO text).1.labels.getD i []==s.conf.labels.getD i [])) with
 | true=>rfl
 | false =>
 cases s.apps.any (fun a=>live a&&!nA (fO text).1 a.queue)<;>rfl
theorem qOG{b:Nat}{s:Se}(x:Ip)(h:qCz b s)(hb:b≤80000000)(h0:0≤s.epoch):s.epoch≤(mE s x).1.epoch∧(mE s x).1.epoch≤s.epoch+1:=by
 have K:=h.keep
 have e:∀t:Se,t.epoch=s.epoch→s.epoch≤t.epoch∧t.epoch≤s.epoch+1:=fun t h=>by omega
 unfold mE
 cases x.kind==1 with
 | true=>exact e _ (qTX s x.text)
 | false =>
 cases x.kind==2 with
 | true=>exact e _ (wF x.node K).ep
 | false =>
 cases x.kind==3 with
 | true=>exact e _ (qCp x K).ep
 | false =>
 cases x.kind==4 with
 | true=>exact e _ (yH x.app K).ep
 | false =>
 cases x.kind==5 with
 | true=>exact e _ (yG x K).ep
 | false =>
 cases x.kind==6 with
 | true=>exact e _ (pF x.id 3 K).ep
 | false =>
 cases x.kind==7 with
 | true=>exact e _ (pF x.id 4 K).ep
 | false =>
 cases x.kind==8 with
 | true=>exact e _ (qCq x.n K (by omega)).ep
 | false =>
 cases x.kind==9 with
 | true=>exact e _ (qEy x.plan x.n K).ep
 | false =>
 cases x.kind==10 with
 | true=>exact e _ (qCs x.id K).ep
 | false =>
 cases x.kind==11 with
 | false=>exact e _ rfl
 | true =>
  cases hc:decide (s.epoch≥1048576) with
  | true=>exact e _ rfl
  | false =>
   have hc:¬s.epoch≥1048576:=by simpa using hc
   show s.epoch≤w64 (s.epoch+1)∧w64 (s.epoch+1)≤s.epoch+1
   rw[fE (by omega) (by omega)];omega
theorem qFP{b:Nat}{s:Se}(x:Ip)(h:qCz b s)(hb:b≤80000000)(hw:Whole s.conf):Whole (mE s x).1.conf:=by
 rcases qTW x h hb with e | e
 ·rw[e];exact hw
 ·exact qFO e
def jE:Se:=⟨⟨[[]],[⟨fG,[⟨10000,10000⟩],10000⟩]⟩,[],[],[],[],[],0,0,0⟩
structure zIF:Prop where
 ok:qF5=true
 eq:qAQ=(jE,())
theorem qIb:tO jE.conf=0:=by
 unfold tO qY6 rU jE
 decide
def zF8(s:Se)(a:Act):Se:=(mE s (qE1 a s)).1
theorem rH:qCz 10 jE:=by
 have hg:=(qCw qIb).1
 refine⟨⟨⟨10,⟨by decide,by decide,by decide,by decide,by decide,by decide,by decide,fun a ha=>(by cases ha),fun q hq=>?_,fun l hl=>?_⟩,by decide⟩,rfl,rfl,hg,⟨List.Pairwise.nil,List.Pairwise.nil⟩⟩⟩
 ·have: q=⟨fG,[⟨10000,10000⟩],10000⟩:=List.mem_singleton.1 hq
  rw[this];decide
 ·have: l=[]:=List.mem_singleton.1 hl
  rw[this];decide
def qHe(x:Scr):Se :=
 bif (mE jE ⟨1,0,0,0,qAe (iW x.shape x.ns).1,dNd,dAp,[],[],dPn⟩).2.1.err==0 then(mE jE ⟨1,0,0,0,qAe (iW x.shape x.ns).1,dNd,dAp,[],[],dPn⟩).1 else jE
def qLW(x:Scr):Se:=x.acts.foldl zF8 (qHe x)
structure Reached(n:Nat)(s:Se):Prop where
 fine:qCz (2010+2000*n) s
 whole:Whole s.conf
 ep0:0≤s.epoch
 ep:s.epoch≤1+n
theorem qFQ{n:Nat}{s:Se}(a:Act)(h:Reached n s)(hn:n≤1000):Reached (n+1) (zF8 s a) :=
 by
 have he:=qOG (qE1 a s) h.fine (by omega) h.ep0
 have h1:=h.ep0
 have h2:=h.ep
 exact⟨(qIa _ h.fine (by omega)).le (by omega),qFP _ h.fine (by omega) h.whole,Int.le_trans h1 he.1,by show(mE s (qE1 a s)).1.epoch≤1+((n+1:Nat):Int);omega⟩
theorem qLX(x:Scr):Reached 0 (qHe x):=by
 have hw:=qFO qIb
 unfold qHe
 cases (mE jE ⟨1,0,0,0,qAe (iW x.shape x.ns).1,dNd,dAp,[],[],dPn⟩).2.1.err==0 with
 | true =>
  have he:=qOG ⟨1,0,0,0,qAe (iW x.shape x.ns).1,dNd,dAp,[],[],dPn⟩ rH (by decide) (by decide)
  exact⟨qIa _ rH (by decide),qFP _ rH (by decide) hw,he.1,by have h2:=he.2;rw[show jE.epoch=0 from rfl] at h2;exact h2⟩
 | false=>exact⟨rH.le (by decide),hw,(by decide:(0:Int)≤0),(by decide:(0:Int)≤1+((0:Nat):Int))⟩
theorem qQ7(l:List Act):∀{n:Nat} {s:Se},Reached n s→n+l.length≤1000→Reached (n+l.length) (l.foldl zF8 s):=by
 induction l with
 | nil=>exact fun h _=>h
 | cons a l ih =>
  intro n s h hn
  rw[List.length_cons] at hn ⊢
  have:= ih (qFQ a h (by omega)) (by omega)
  rw[List.foldl]
  have e:n+(l.length+1)=n+1+l.length:=by omega
  rw[e];exact this
theorem zF9{x:Scr}(hg:qWu)(hN:zIF)(hx:x.acts.length≤80):(qDt x=true∧aP x=(qLW x,()))∧Reached x.acts.length (qLW x):=by
 have hr0:=qLX x
 have hall:Reached x.acts.length (qLW x):=by
  have:= qQ7 x.acts hr0 (by omega)
  rw[Nat.zero_add] at this;exact this
 refine⟨zET ?_,hall⟩
 unfold qT5
 have gt:=qYC (hg.good x.shape x.ns)
 have q1:=qTQ (b:=10) (s:=jE) (x:=⟨1,0,0,0,qAe (iW x.shape x.ns).1,dNd,dAp,[],[],dPn⟩) rH (by decide) ⟨Nat.zero_le _,Nat.zero_le _⟩
 simp only[hN.ok,hN.eq,hg.ok x.shape x.ns,gt.1.1,gt.1.2,q1.1,q1.2,bH]
 refine aT ((qHe x,()),()) ?_ ?_
 ·unfold qHe
  cases (mE jE ⟨1,0,0,0,qAe (iW x.shape x.ns).1,dNd,dAp,[],[],dPn⟩).2.1.err==0<;>exact aF rfl
 ·unfold qLW
  generalize qHe x=s0 at hr0
  refine pV x.acts qUX (fun i (v:Se)=>(i,(v,()),())) zF8 (fun v=>(v,())) (fun i v=>Reached i v) (fun i v hi hv=>⟨qFQ _ hv (by omega),aF ?_⟩) (fun v hv=>aF ?_) (b0:=s0) hr0
  ·have hv:Reached i v:=hv
   have hb:2010+2000*i≤80000000:=by omega
   have hO:=hv.fine.ok (show 2010+2000*i≤1000000000 by omega)
   have qi:=zF7 (a:=x.acts.getD i qUX) hg hO hv.whole.labels hv.whole.leaf
   have hc:v.conts.length≤100000000:=Nat.le_trans hv.fine.keep.sn.conts (by omega)
   have qs:=qTQ hv.fine hb (qWv (a:=x.acts.getD i qUX) hc)
   simp only[fC,dN,dE,bF hi,bG hi,Int.toNat_natCast,qi.1,qi.2,qs.1,qs.2,cond_true,aG hi (show x.acts.length≤1000000000 by omega),zF8]
  ·simp only[sS,bM]
theorem zLO:zIF:=⟨(qYw (r:=(jE,())) rfl).1,(qYw (r:=(jE,())) rfl).2⟩
end Go.Proofs.YtehpnjmgjmkjaaaGreatDoor
