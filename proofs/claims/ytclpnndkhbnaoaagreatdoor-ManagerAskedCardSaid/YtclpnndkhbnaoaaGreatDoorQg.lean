/- Part of the proof: texts Qk Ql. No conditions. -/
import Derived.Test.YtclpnndkhbnaoaaGreatDoorQf
import Derived.Test.YtclpnndkhbnaoaaGreatDoorQe
set_option linter.all false
noncomputable section
namespace Go.Proofs.YtclpnndkhbnaoaaGreatDoor
open Go Go.W Go.Proofs
open Go.W.DT (ret need br both bad loop join)
set_option maxRecDepth 100000
def iR(am:List Ak):Int→Int:=am.foldl (fun f a=>yB f a.prio a.count) fun _=>0
theorem vW(am:List Ak)(a:Ak):iR (am++[a])=yB (iR am) a.prio a.count:=by simp[iR]
def apV(v:List Ak):ApT:=(1,2,qAl,0,0,1,1,v,0,0,[],[],[],[],())
def apU(v:List Ak):Ap:=⟨1,2,qAl,0,0,⟨1,1⟩,v,0,1,[],[],[],[]⟩
def sU(v:List Ak):Se:={ sA3 with apps:=[apU v] }
def isM(a:Ak):Prop:=∃(p:Nat) (c m:Int),p<10∧0≤c∧c≤50∧a=yE p c m
theorem fK:rY sA3:=iP.1 (by decide)
theorem qNR{v:List Ak}(h:v.length≤1000):qG5 (apV v)=true∧bC (apV v)=(stT (sU v),()):=by
 have q:=qLX (s:=sA3) (a:=apU v) (i:=0) fK ⟨by show v.length≤_;omega,di _,di _,di _,di _,by show qAl.length≤_;decide⟩ rfl
 exact q
theorem uE(am:List Ak):∀i:Nat,i≤am.length→(dN (iR (am.take i)) P10).length≤i
 | 0,_=>by simp[iR,dN,P10,kH]
 | i+1,h=>by
  have ih:=uE am i (by omega)
  rw[eX (d:=dAk) (by omega),vW]
  have:= yD (f:=iR (am.take i)) (p:=(am.getD i dAk).prio) (c:=(am.getD i dAk).count) (P:=P10) (by decide)
  omega
theorem qMi{ρ:Type}{l am:List Ak}{k:Nat}{x:StU ⊕ ρ}(hl:l.length=am.length)(h8:am.length≤8)(hk:k≤am.length)(hok:∀i,i<k→isM (am.getD i dAk))
  (hx:(k=am.length∧x=.inl (stT (sU (dN (iR am) P10)),((0:Int),[],[],[],(0:Int),()),()))∨(k<am.length∧mI (am.getD k dAk) 1=1∧x=.inl (stT sA3,((1:Int),[],[],[],(0:Int),()),()))):(qIh l am:DT (StU ⊕ ρ)).G x:=by
 unfold qIh
 simp only[mV]
 refine aM rfl (aM rfl (aM rfl (aM (by decide) (aM rfl (aF rfl ?_)))))
 refine qD9 am.length (fun i=>(i,apV (dN (iR (am.take i.toNat)) P10),())) (fun i=>i≤k) (fun i hi hik=>?_) (fun hn=>?_) (i0:=0) (di _) (di _)
 ·by_cases hlt:i<k
  ·left
   obtain⟨p,c,m,hp,hc,hc2,he⟩:=hok i hlt
   have hb:=uE am i (by omega)
   have qc:jM (yE p c m) ((1:Nat):Int)=true∧fG (yE p c m) ((1:Nat):Int)=(mI (yE p c m) 1,()):=qCZ (by decide) (by decide)
   have hs:=qMg (f:=iR (am.take i)) (m:=m) hp hc (show(dN (iR (am.take i)) P10).length<8 by omega)
   have qs:=qQr (l:=dN (iR (am.take i)) P10) (a:=yE p c m) (by omega)
   rw[qMh hp hc hc2] at qc
   rw[hs] at qs
   have hn:am.take (i+1)=am.take i++[yE p c m]:=by rw[eX (d:=dAk) hi,he]
   refine⟨by omega,?_⟩
   simp only[hl,he,ed,fe]
   refine bA (lW hi) (aF (ix2 hi) (aF (eP hi) (aF qc.1 ?_)))
   have hB':dN (iR (am.take (i+1))) P10=dN (yB (iR (am.take i)) p c) P10:=by rw[hn,vW];rfl
   rw[hB']
   simp only[apV,oM,qc.2,qs.2]
   refine bA rfl (aF (by simp) (aF (oL _) (aF qs.1 (aM rfl (aF (by simp) ?_)))))
   rw[dW hi (by omega),jd]
   rfl
  ·right
   obtain rfl:i=k:=by omega
   rcases hx with⟨h1,-⟩ | ⟨-,hc,rfl⟩
   ·omega
   have qc:jM (am.getD i dAk) ((1:Nat):Int)=true∧fG (am.getD i dAk) ((1:Nat):Int)=(mI (am.getD i dAk) 1,()):=qCZ (by decide) (by decide)
   rw[hc] at qc
   simp only[hl,ed,fe]
   refine bA (lW hi) (aF (ix2 hi) (aF (eP hi) (aF qc.1 ?_)))
   rw[qc.2]
   exact aM rfl (bA rfl (bA rfl rfl))
 ·obtain rfl:k=am.length:=by omega
  have hxe:x=.inl (stT (sU (dN (iR am) P10)),((0:Int),[],[],[],(0:Int),()),()):=by
   rcases hx with⟨-,h⟩ | ⟨h1,-⟩
   ·exact h
   ·omega
  subst hxe
  have hb:=uE am am.length (dh _)
  rw[jd] at hb
  simp only[hl,ed,jd]
  generalize dN (iR am) P10=B at hb ⊢
  obtain⟨p1,p2⟩:=qNR (v:=B) (by omega)
  refine aM oI (bH (apV B,(),(),(),(),(),()) ?_ ?_)
  ·simp only[apV,oL,aT,fe,qD8]
   rfl
  ·refine qFh (aM rfl (bA rfl (aF (show dB 0 8=true by decide) (aF p1 ?_))))
   rw[p2]
   have e:seX (stT (sU B))=sU B:=by simp only[seX,stT,oM]
   have hok:rY (sU B):=by
    refine⟨fK.nodes,by show 1≤1000000000;decide,fK.conts,fK.slots,fK.plans,fK.labels,fK.queues,fun a ha=>?_,fK.qu,fK.lab⟩
    obtain rfl:a=apU B:=ig.1 ha
    exact⟨by show B.length≤_;omega,di _,di _,di _,di _,by show qAl.length≤_;decide⟩
   simp only[e,iP.2 hok,oM,gp,gG,fe,aT,oL,qD8]
   rfl
def ipU(k:Int):Ip:=⟨k,0,0,0,[],dNd,dAp,[],[],dPn⟩
theorem qDO:rY lX:=iP.1 (by decide)
theorem qFt:qM=true∧uC=(true,()):=qJn (by
 have q:=qLT (x:=ipU 99) qDO qDO (qLS rfl)
 have q2:=qHY (a:=lX) (b:=lX) qDO
 have e:zD lX lX=true:=by simp[zD]
 rw[e] at q2
 show(need (sH lX (ipU 99)) (br ((qL lX (ipU 99)).2.1.err==(3:Int)) (need (kC lX (qL lX (ipU 99)).1) (ret ((mZ lX (qL lX (ipU 99)).1).1,()))) (ret (false,())))).G (true,())
 rw[q.1,q.2]
 refine aF rfl (bA rfl ?_)
 show(need (kC lX lX) (ret ((mZ lX lX).1,()))).G (true,())
 rw[q2.1,q2.2]
 exact aF rfl rfl)
theorem zP(k:Int){n:Nat}(h0:0<n)(hn:n≤1000000000):gI k n=true∧∃j:Nat,j<n∧fH k n=((j:Int),()):=by
 have h1:=Int.tmod_lt_of_pos k (show(0:Int)<n by omega)
 have h2:=Int.lt_tmod_of_pos k (show(0:Int)<n by omega)
 by_cases hd:k.tmod n<0
 ·have key:(pG k n).G (k.tmod n+n,()):=by
   unfold pG
   refine aF (by simp;omega) (qCI ?_)
   have: decide (k.tmod n<0)=true:=by simpa using hd
   rw[this,qD (by omega) (by omega)];rfl
  refine⟨(uD key).1,(k.tmod n+n).toNat,by omega,?_⟩
  rw[(uD key).2,show(((k.tmod n+n).toNat:Nat):Int)=k.tmod n+n by omega]
 ·have key:(pG k n).G (k.tmod n,()):=by
   unfold pG
   refine aF (by simp;omega) (qCI ?_)
   have: decide (k.tmod n<0)=false:=by simpa using hd
   rw[this];rfl
  refine⟨(uD key).1,(k.tmod n).toNat,by omega,?_⟩
  rw[(uD key).2,show(((k.tmod n).toNat:Nat):Int)=k.tmod n by omega]
def qNS(f:Int→Int):Int×Int×Int×Int×Int×Int×Int×Int×Int×Int×Unit:=(f 0,f 1,f 2,f 3,f 4,f 5,f 6,f 7,f 8,f 9,())
def cvA(a:Ak):Ak:=yE (fH a.prio 10).1 (fH a.count 5).1 a.missed
theorem qN{f:Int→Int}{X Y:List Ak}{A:List Ak}{p P n:Int}(hP:P=p)(hn:n=(X.length:Int))(hA:A=(X++(match kH f p with | some a=>[a] | none=>[]))++Y)(h8:A.length≤1000) :
  (sJ A (f p) P n).G (.inl ((((X++(match kH f p with | some a=>[a] | none=>[])).length:Nat):Int),())):=by
 subst hP hn
 unfold sJ
 by_cases h:0<f P
 ·have ho:kH f P=some (qDN P (f P)):=by unfold kH;rw[if_pos h]
  simp only[ho] at hA ⊢
  have hl:X.length<A.length:=by rw[hA];simp
  have hg:A.getD X.length dAk=qDN P (f P):=by rw[hA];simp[List.getD]
  simp only[ed,hg]
  refine bA (by simpa using h) (aM (by simp;omega) (aF (xN hl) (aM (by simp[qDN]) (aF (xN hl) (aM (by simp[qDN]) (aF (xN hl) (aM rfl ?_)))))))
  rw[qD (by omega) (by omega)]
  simp only[ji,ma]
  rfl
 ·have ho:kH f P=none:=by unfold kH;rw[if_neg h]
  simp only[ho,jy]
  exact aM (by simpa using h) rfl
def mU(f:Int→Int)(p:Int):List Ak:=match kH f p with
 | some a=>[a]
 | none=>[]
theorem qIj(l:List Ak)(kk:Int):qFr l kk=true∧qDM l kk=(true,()):=qNQ (by
 unfold qIi
 rw[qFt.1,qFt.2]
 refine aF rfl (aM rfl (qCg (fun _=>rfl) fun hl=>?_))
 have hl:l.length≤8:=by simp at hl;omega
 have hcv:∀a:Ak,∃(p c:Nat),p<10∧c<5∧gI a.prio 10=true∧fH a.prio 10=((p:Int),())∧gI a.count 5=true∧fH a.count 5=((c:Int),()):=by
  intro a
  obtain⟨w1,p,hp,w2⟩:=zP a.prio (n:=10) (by decide) (by decide)
  obtain⟨w3,c,hc,w4⟩:=zP a.count (n:=5) (by decide) (by decide)
  exact⟨p,c,hp,hc,w1,w2,w3,w4⟩
 have haml:(l.map cvA).length=l.length:=iq _
 have hget:∀i,i<l.length→(l.map cvA).getD i dAk=cvA (l.getD i dAk):=by
  intro i hi
  simp[List.getD,hi]
 have hM:∀i,i<l.length→isM ((l.map cvA).getD i dAk):=by
  intro i hi
  obtain⟨p,c,hp,hc,-,w2,-,w4⟩:=hcv (l.getD i dAk)
  rw[hget i hi]
  exact⟨p,c,(l.getD i dAk).missed,hp,by omega,by omega,by unfold cvA;rw[w2,w4]⟩
 refine bH (l.map cvA,qNS (iR (l.map cvA)),()) ?_ ?_
 ·refine qD9 l.length (fun i=>((l.map cvA).take i.toNat,i,qNS (iR ((l.map cvA).take i.toNat)),())) (fun _=>True) (fun i hi _=>.inl ⟨trivial,?_⟩) (fun _=>?_) (i0:=0) trivial (di _)
  ·obtain⟨p,c,hp,hc,w1,w2,w3,w4⟩:=hcv (l.getD i dAk)
   have hcva:cvA (l.getD i dAk)=yE p c (l.getD i dAk).missed:=by unfold cvA;rw[w2,w4]
   have hn:(l.map cvA).take (i+1)=(l.map cvA).take i++[yE p c (l.getD i dAk).missed]:=by rw[eX (d:=dAk) (by omega),hget i hi,hcva]
   simp only[ed,hn,vW]
   generalize hT:(l.map cvA).take i=T
   have hTl:T.length=i:=by rw[←hT];simp;omega
   generalize iR T=f
   have hf:(dB (T.length+1) 64&&(0+T.length).ble T.length)=true:=by rw[dM (by omega) (by decide),fe,gG];rfl
   have hb:(0+T.length).beq T.length=true:=by rw[fe];exact dF _
   simp only[w2,w4,qB1,dW hi (show l.length≤1000000000 by omega)]
   refine bA (lW hi) (aF (xN hi) (aF w1 ?_))
   rcases(show p=0∨p=1∨p=2∨p=3∨p=4∨p=5∨p=6∨p=7∨p=8∨p=9 by omega) with rfl | rfl | rfl | rfl | rfl | rfl | rfl | rfl | rfl | rfl
   all_goals
    repeat first | refine bA rfl ?_ | refine aM rfl ?_
    first
    | exact aF w3 (aF hb (aF hf (aF (by simp) rfl)))
    | exact aF rfl (aF w3 (aF hb (aF hf (aF (by simp) rfl))))
  ·simp only[ed]
   refine aM oI (aF (dF _) ?_)
   rw[←haml,jd];rfl
 generalize hamd:l.map cvA=am at haml hM
 rw[←haml] at hl hM
 clear hget hcv hamd haml
 have hbl:=uE am am.length (dh _)
 rw[jd] at hbl
 generalize hfd:iR am=f at hbl
 have hmast:=qMi (ρ:=Bool×Unit) (l:=am) (k:=am.length) rfl hl (dh _) hM (.inl ⟨rfl,rfl⟩)
 rw[hfd] at hmast
 refine bH _ hmast ?_
 have hok:rY (sU (dN f P10)):=by
  refine⟨fK.nodes,by show 1≤1000000000;decide,fK.conts,fK.slots,fK.plans,fK.labels,fK.queues,fun a ha=>?_,fK.qu,fK.lab⟩
  obtain rfl:a=apU (dN f P10):=ig.1 ha
  exact⟨by show(dN f P10).length≤_;omega,di _,di _,di _,di _,by show qAl.length≤_;decide⟩
 refine bH (apT (apU (dN f P10)),true,()) (aF (iP.2 hok) ?_) ?_
 ·simp only[qHq]
  rfl
 generalize hB:dN f P10=B at *
 have hA:B=mU f 0++(mU f 1++(mU f 2++(mU f 3++(mU f 4++(mU f 5++(mU f 6++(mU f 7++(mU f 8++(mU f 9++[]))))))))):=by
  rw[←hB]
  simp only[P10,jN]
  rfl
 have hB8:B.length≤1000:=by omega
 refine bH ((B.length:Int),()) ?_ ?_
 ·refine bH (((mU f 0).length:Int),()) ?_ ?_
  ·by_cases h:0<f 0
   ·have ho:mU f 0=[qDN 0 (f 0)]:=by unfold mU kH;rw[if_pos h]
    rw[ho] at hA ⊢
    have hl0:0<B.length:=by rw[hA];simp
    have hg:B.getD 0 dAk=qDN 0 (f 0):=by rw[hA];rfl
    have hx:(decide ((0:Int)<(B.length:Int))&&true&&true)=true:=by simp;omega
    refine bA (decide_eq_true (show(qNS f).1>0 from h)) (aM (decide_eq_false (by show ¬(0:Int)≥(B.length:Int);omega)) (aF hx (aM ?_ (aF hx (aM ?_ (aF hx (aM ?_ rfl)))))))
    ·show((B.getD 0 dAk).prio != 0)=false
     rw[hg];rfl
    ·show((B.getD 0 dAk).count != f 0)=false
     rw[hg];simp[qDN]
    ·show((B.getD 0 dAk).missed != 0)=false
     rw[hg];rfl
   ·have ho:mU f 0=[]:=by unfold mU kH;rw[if_neg h]
    rw[ho]
    exact aM (decide_eq_false (show ¬(qNS f).1>0 from h)) rfl
  refine bH _ (qN (f:=f) (p:=1) (A:=B) (X:=mU f 0) rfl rfl (hA.trans (by simp only[gm];rfl)) hB8) ?_
  refine bH _ (qN (f:=f) (p:=2) (A:=B) (X:=mU f 0++mU f 1) rfl rfl (hA.trans (by simp only[gm];rfl)) hB8) ?_
  refine bH _ (qN (f:=f) (p:=3) (A:=B) (X:=mU f 0++mU f 1++mU f 2) rfl rfl (hA.trans (by simp only[gm];rfl)) hB8) ?_
  refine bH _ (qN (f:=f) (p:=4) (A:=B) (X:=mU f 0++mU f 1++mU f 2++mU f 3) rfl rfl (hA.trans (by simp only[gm];rfl)) hB8) ?_
  refine bH _ (qN (f:=f) (p:=5) (A:=B) (X:=mU f 0++mU f 1++mU f 2++mU f 3++mU f 4) rfl rfl (hA.trans (by simp only[gm];rfl)) hB8) ?_
  refine bH _ (qN (f:=f) (p:=6) (A:=B) (X:=mU f 0++mU f 1++mU f 2++mU f 3++mU f 4++mU f 5) rfl rfl (hA.trans (by simp only[gm];rfl)) hB8) ?_
  refine bH _ (qN (f:=f) (p:=7) (A:=B) (X:=mU f 0++mU f 1++mU f 2++mU f 3++mU f 4++mU f 5++mU f 6) rfl rfl (hA.trans (by simp only[gm];rfl)) hB8) ?_
  refine bH _ (qN (f:=f) (p:=8) (A:=B) (X:=mU f 0++mU f 1++mU f 2++mU f 3++mU f 4++mU f 5++mU f 6++mU f 7) rfl rfl (hA.trans (by simp only[gm];rfl)) hB8) ?_
  refine bH _ (qN (f:=f) (p:=9) (A:=B) (X:=mU f 0++mU f 1++mU f 2++mU f 3++mU f 4++mU f 5++mU f 6++mU f 7++mU f 8) rfl rfl (hA.trans (by simp only[gm];rfl)) hB8) ?_
  have hlen:(((mU f 0++mU f 1++mU f 2++mU f 3++mU f 4++mU f 5++mU f 6++mU f 7++mU f 8++mU f 9).length:Nat):Int)=(B.length:Int):=by rw[hA];simp only[gm,jy]
  exact congrArg (fun z:Int=>(Sum.inl (z,()):(Int×Unit) ⊕ (Bool×Unit))) hlen
 refine aM rfl (aM (by show((B.length:Int) != (B.length:Int))=false;simp) (qCg (fun _=>rfl) fun h0=>?_))
 have h0:0<am.length:=by
  have: ¬(am.length:Int)=0:=by simpa using h0
  omega
 obtain⟨w1,j,hj,w2⟩:=zP kk h0 (by omega)
 refine bH ((j:Int),()) (aF w1 (aM (decide_eq_false (by show ¬(am.length:Int)=10;omega)) ?_)) ?_
 ·rw[w2];rfl
 simp only[ed,fe]
 refine aF (ix2 hj) (aF (by rw[eP hj];rfl) ?_)
 generalize hW:(⟨(am.getD j dAk).prio,(am.getD j dAk).label,⟨0,(am.getD j dAk).size.cores⟩,(am.getD j dAk).count,(am.getD j dAk).node,(am.getD j dAk).rack,(am.getD j dAk).missed⟩:Ak)=a
 have hm2:=qMi (ρ:=Bool×Unit) (l:=am) (am:=am.set j a) (k:=j) (x:=.inl (stT sA3,((1:Int),[],[],[],(0:Int),()),())) (by simp) (by simpa using hl) (by simp;omega) (fun i hi=>by
   have: (am.set j a).getD i dAk=am.getD i dAk:=by simp[List.getD,pq,show ¬j=i by omega]
   rw[this]
   exact hM i (by omega)) (.inr ⟨by simpa using hj,by
   have: (am.set j a).getD j dAk=a:=by simp[List.getD,hj]
   rw[this,←hW]
   have: uJ (⟨(am.getD j dAk).prio,(am.getD j dAk).label,⟨0,(am.getD j dAk).size.cores⟩,(am.getD j dAk).count,(am.getD j dAk).node,(am.getD j dAk).rack,(am.getD j dAk).missed⟩:Ak) 1=false:=by simp[uJ]
   unfold mI
   rw[this];rfl,rfl⟩)
 refine bH _ hm2 (bA rfl ?_)
 have q:=qHY (a:=sA3) (b:=sA3) fK
 have e:zD sA3 sA3=true:=by simp[zD]
 rw[e] at q
 show(need (kC sA3 sA3) (ret ((mZ sA3 sA3).1,()))).G (true,())
 rw[q.1,q.2]
 exact aF rfl rfl)
end Go.Proofs.YtclpnndkhbnaoaaGreatDoor
