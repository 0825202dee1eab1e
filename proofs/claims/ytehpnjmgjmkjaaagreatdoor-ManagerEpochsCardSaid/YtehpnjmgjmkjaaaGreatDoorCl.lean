/- Part of the proof. No conditions. -/
import Derived.Test.YtehpnjmgjmkjaaaGreatDoorCh
import Derived.Test.YtehpnjmgjmkjaaaGreatDoorCi
import Derived.Test.YtehpnjmgjmkjaaaGreatDoorCk
namespace Go.Proofs.YtehpnjmgjmkjaaaGreatDoor
open Go Go.W Go.Proofs DT
set_option maxRecDepth 100000
def dI(k n:Int):Int:=bif decide (k.tmod n<0) then w64 (k.tmod n+n) else k.tmod n
theorem mX(k:Int){n:Int}(hn:n≠0):jC k n=true∧dF k n=(dI k n,()):=zAD (by
 unfold qOr dI
 have e:(!decide (n=0))=true:=by simp[hn]
 refine aF ?_
 simp only[dN,fC,dE,jJ,e,cond_true]
 cases decide (k.tmod n<0)<;>rfl)
theorem oK(k:Int){n:Int}(h0:0<n)(hn:n≤1000000000):0≤dI k n∧dI k n<n:=qAX k h0 hn
variable {ns:List Int} {P:RG→Prop}
theorem zLP{i:Nat}{K:Int→DT RG}(h:∀u,1≤u→u≤1000000→∃x,(K u).G x∧P x):∃x,(uJ ns i K).G x∧P x:=by
 have hw:=oK (ns.getD i 0) (n:=20000) (by decide) (by decide)
 have hq:=mX (ns.getD i 0) (n:=20000) (by decide)
 obtain⟨x,h1,h2⟩:=h 1000000 (by decide) (by decide)
 obtain⟨y,h3,h4⟩:=h (w64 (1+dI (ns.getD i 0) 20000)) (by rw[fE]<;>omega) (by rw[fE]<;>omega)
 unfold uJ
 cases hi:decide ((i:Int)<(ns.length:Int)) with
 | false=>exact⟨x,aT (((),(),1000000,()),()) rfl h1,h2⟩
 | true =>
  cases hm:Int.tmod (ns.getD i 0) 3==0 with
  | false=>exact⟨x,aT (((),(),1000000,()),()) rfl h1,h2⟩
  | true =>
   refine⟨y,aT (((),(),w64 (1+dI (ns.getD i 0) 20000),()),()) ?_ h3,h4⟩
   refine aF ?_
   simp only[dN,fC,dE,hq.1,hq.2,cond_true,Bool.and_true]
theorem qIG{i:Int}(h:0≤i):sU ns i=true:=(zHM h).1
theorem zLQ{a b left:Int}{K:Int→DT RG}(ha:0≤a)(hb:0≤b)(hl:0≤left)(hl2:left≤10000)(h:∀n,0≤n→n≤left→∃x,(K n).G x∧P x):∃x,(nJ ns a b left K).G x∧P x:=by
 have e1:w64 (left+1)=left+1:=by rw[fE]<;>omega
 have hw:=oK (bR ns a).1 (n:=left+1) (by omega) (by omega)
 have hq:=mX (bR ns a).1 (n:=left+1) (by omega)
 have hw4:=oK (bR ns b).1 (n:=4) (by decide) (by decide)
 have hq4:=mX (bR ns b).1 (n:=4) (by decide)
 have hp:=qDw (k:=(bR ns b).1) (n:=4) (m:=4) rfl (by decide) (by decide)
 have hp:(decide (0≤dI (bR ns b).1 4)&&decide (dI (bR ns b).1 4<4))=true∧Nat.blt (dI (bR ns b).1 4).toNat 4=true:=hp
 have ht:=Int.tdiv_nonneg hl (by decide:(0:Int)≤2)
 have ht2:left.tdiv 2≤left:=by rw[Int.tdiv_eq_ediv_of_nonneg hl];omega
 have e2:w64 (left.tdiv 2)=left.tdiv 2:=by rw[fE]<;>omega
 generalize hg:(([]++[0,w64 (left.tdiv 2),left,dI (bR ns a).1 (left+1)]).getD (0+(dI (bR ns b).1 4).toNat) 0:Int)=n
 have hn:0≤n∧n≤left:=by
  rw[←hg,e2,Nat.zero_add,List.nil_append]
  rcases hk:(dI (bR ns b).1 4).toNat with _ | _ | _ | _ | k
  ·exact⟨Int.le_refl 0,hl⟩
  ·exact⟨ht,ht2⟩
  ·exact⟨hl,Int.le_refl _⟩
  ·exact⟨hw.1,by have:= hw.2;show dI _ _≤left;omega⟩
  ·omega
 obtain⟨x,h1,h2⟩:=h n hn.1 hn.2
 refine⟨x,aT (n,()) ?_ h1,h2⟩
 refine aF ?_
 simp only[dN,dE,e1,qIG ha,qIG hb,hq.1,hq4.1,hq.2,hq4.2,hp.1,Nat.zero_add,hp.2,cond_true]
 rw[Nat.zero_add] at hg
 rw[hg]
theorem zIG{a b n:Int}{K:Int→DT RG}(ha:0≤a)(hb:0≤b)(hl:0≤n)(hl2:n≤10000)(h:∀m,n≤m→m≤10000→∃x,(K m).G x∧P x):∃x,(mJ ns a b n K).G x∧P x:=by
 have e1:w64 (w64 (10000-n)+1)=10001-n:=by rw[fE (n:=10000-n) (by omega) (by omega),fE]<;>omega
 have hw:=oK (bR ns a).1 (n:=10001-n) (by omega) (by omega)
 have hq:=mX (bR ns a).1 (n:=10001-n) (by omega)
 have hw4:=oK (bR ns b).1 (n:=3) (by decide) (by decide)
 have hq4:=mX (bR ns b).1 (n:=3) (by decide)
 have hp:=qDw (k:=(bR ns b).1) (n:=3) (m:=3) rfl (by decide) (by decide)
 have hp:(decide (0≤dI (bR ns b).1 3)&&decide (dI (bR ns b).1 3<3))=true∧Nat.blt (dI (bR ns b).1 3).toNat 3=true:=hp
 generalize hg:(([]++[10000,n,w64 (n+dI (bR ns a).1 (10001-n))]).getD (0+(dI (bR ns b).1 3).toNat) 0:Int)=m
 have hn:n≤m∧m≤10000:=by
  rw[←hg,Nat.zero_add,List.nil_append,fE (n:=n+dI (bR ns a).1 (10001-n)) (by omega) (by omega)]
  rcases hk:(dI (bR ns b).1 3).toNat with _ | _ | _ | k
  ·exact⟨hl2,Int.le_refl _⟩
  ·exact⟨Int.le_refl _,hl2⟩
  ·exact⟨by show n≤n+dI _ _;omega,by show n+dI _ _≤10000;omega⟩
  ·omega
 obtain⟨x,h1,h2⟩:=h m hn.1 hn.2
 refine⟨x,aT (m,()) ?_ h1,h2⟩
 refine aF ?_
 simp only[dN,dE,e1,qIG ha,qIG hb,hq.1,hq4.1,hq.2,hq4.2,hp.1,Nat.zero_add,hp.2,cond_true]
 rw[Nat.zero_add] at hg
 rw[hg]
def qDL(c:Cp):Prop:=0≤c.least∧c.least≤c.most∧c.most≤10000
theorem jR{x:Int}(h:0≤x)(h2:x≤1000000):w64 x=x:=by rw[fE]<;>omega
theorem qTZ{i k:Int}(hi:0≤i)(hi2:i≤20)(hk:0≤k)(hk2:k≤20):∀(c:Nat) {j left:Int} {K:List Cp→DT RG},0≤j→j+c≤100→0≤left→left≤10000 →
  (∀l:List Cp,l.length=c→(∀x∈l,qDL x)→∃x,(K l).G x∧P x)→∃x,(qYF ns i k c j left K).G x∧P x
 | 0,j,left,K,_,_,_,_,h=>h [] rfl (fun x hx=>by cases hx)
 | 1,j,left,K,hj,hj2,hl,hl2,h=>by
  have hm:∃x,(mJ ns (w64 (j+k)) (w64 (i+w64 (2*j))) left fun m=>K [⟨left,m⟩]).G x∧P x:=by
   rw[jR (x:=j+k) (by omega) (by omega),jR (x:=2*j) (by omega) (by omega),jR (x:=i+2*j) (by omega) (by omega)]
   refine zIG (by omega) (by omega) hl hl2 fun m h1 h2=>h [⟨left,m⟩] rfl fun x hx=>?_
   cases List.mem_singleton.1 hx
   exact⟨hl,h1,h2⟩
  obtain⟨x,h1,h2⟩:=hm
  exact⟨x,aT (left,()) rfl h1,h2⟩
 | c+2,j,left,K,hj,hj2,hl,hl2,h=>by
  unfold qYF
  have hij:0≤i*j:=Int.mul_nonneg hi hj
  have hij2:i*j≤20*100:=Int.mul_le_mul hi2 (by omega) hj (by decide)
  rw[jR (x:=i+j) (by omega) (by omega),jR (x:=i+j+k) (by omega) (by omega),jR (x:=i*j) (by omega) (by omega),jR (x:=i*j+k) (by omega) (by omega),
   jR (x:=j+k) (by omega) (by omega),jR (x:=2*j) (by omega) (by omega),jR (x:=i+2*j) (by omega) (by omega)]
  refine zLQ (by omega) (by omega) hl hl2 fun n h1 h2=>zIG (by omega) (by omega) h1 (by omega) fun m h3 h4=>?_
  rw[jR (x:=left-n) (by omega) (by omega)]
  refine qTZ hi hi2 hk hk2 (c+1) (by omega) (by omega) (by omega) (by omega) fun l hl3 hl4=>h (⟨n,m⟩::l) (by simp[hl3]) fun x hx=>?_
  rcases List.mem_cons.1 hx with rfl | hx
  ·exact⟨h1,h3,h4⟩
  ·exact hl4 x hx
theorem qOH:∀(n i:Nat) {K:List Int→DT RG},(∀us:List Int,us.length=n→(∀u∈us,1≤u∧u≤1000000)→∃x,(K us).G x∧P x)→∃x,(qQ8 ns n i K).G x∧P x
 | 0,i,K,h=>h [] rfl (fun x hx=>by cases hx)
 | n+1,i,K,h=>zLP fun u h1 h2=>qOH n (i+1) fun us h3 h4=>h (u::us) (by simp[h3]) fun x hx=>by
  rcases List.mem_cons.1 hx with rfl | hx
  ·exact⟨h1,h2⟩
  ·exact h4 x hx
theorem qUa{i:Int}{c:Nat}(hi:0≤i)(hi2:i≤20)(hc:c≤20):∀(l:Nat) {k:Int} {K:List (List Cp)→DT RG},0≤k→k+l≤20 →
  (∀xs:List (List Cp),(∀x∈xs,∀y∈x,qDL y)→∃x,(K xs).G x∧P x)→∃x,(zFA ns i c l k K).G x∧P x
 | 0,k,K,_,_,h=>h [] (fun x hx=>by cases hx)
 | l+1,k,K,hk,hk2,h=>qTZ hi hi2 hk (by omega) c (by decide) (by omega) (by decide) (by decide) fun x _ h2=>qUa hi hi2 hc l (by omega) (by omega) fun xs h3=>h (x::xs) fun y hy=>by
  rcases List.mem_cons.1 hy with rfl | hy
  ·exact h2
  ·exact h3 y hy
theorem qYG{l:Nat}(hl:l≤20):∀(cs:List Nat) {i:Int} {K:List (List (List Cp))→DT RG},(∀c∈cs,c≤20)→0≤i→i+cs.length≤20 →
  (∀xs:List (List (List Cp)),(∀x∈xs,∀y∈x,∀z∈y,qDL z)→∃x,(K xs).G x∧P x)→∃x,(allT ns l cs i K).G x∧P x
 | [],i,K,_,_,_,h=>h [] (fun x hx=>by cases hx)
 | c::cs,i,K,hc,hi,hi2,h=>by
  simp only[List.length_cons] at hi2
  refine qUa hi (by omega) (hc c List.mem_cons_self) l (by decide) (by omega) fun x h2=>qYG hl cs (fun c hc'=>hc c (List.mem_cons_of_mem _ hc')) (by omega) (by omega) fun xs h3=>h (x::xs) fun y hy=>?_
  rcases List.mem_cons.1 hy with rfl | hy
  ·exact h2
  ·exact h3 y hy
theorem qW6{α:Type}{l:List α}{n:Nat}{d:α}:l.getD n d∈l∨l.getD n d=d:=by
 rcases Nat.lt_or_ge n l.length with h | h
 ·left;simp[List.getD,h]
 ·right;simp[List.getD,h]
theorem qQ9{xs:List (List (List Cp))}(h:∀x∈xs,∀y∈x,∀z∈y,qDL z)(p j:Nat):∀l k,(zFB xs p j l k).length=l∧∀c∈zFB xs p j l k,qDL c
 | 0,_=>⟨rfl,fun x hx=>by cases hx⟩
 | l+1,k=>by
  obtain⟨h1,h2⟩:=qQ9 h p j l (k+1)
  refine⟨by simp[zFB,h1],fun c hc=>?_⟩
  rcases List.mem_cons.1 hc with rfl | hc
  ·have d0:qDL ⟨0,0⟩:=⟨by decide,by decide,by decide⟩
   rcases qW6 (l:=(xs.getD p []).getD k []) (n:=j) (d:=(⟨0,0⟩:Cp)) with e | e
   ·rcases qW6 (l:=xs.getD p []) (n:=k) (d:=([]:List Cp)) with e2 | e2
    ·rcases qW6 (l:=xs) (n:=p) (d:=([]:List (List Cp))) with e3 | e3
     ·exact h _ e3 _ e2 _ e
     ·rw[e3] at e2;cases e2
    ·rw[e2] at e;cases e
   ·rw[e];exact d0
  ·exact h2 c hc
theorem qLY:∀l,(qTY l).length=l∧∀c∈qTY l,qDL c
 | 0=>⟨rfl,fun x hx=>by cases hx⟩
 | l+1=>by
  obtain⟨h1,h2⟩:=qLY l
  refine⟨by simp[qTY,h1],fun c hc=>?_⟩
  rcases List.mem_cons.1 hc with rfl | hc
  ·exact⟨by decide,by decide,by decide⟩
  ·exact h2 c hc
structure zLR(l:Nat)(q:Qu):Prop where
 path:q.path.length≤2000
 len:q.caps.length=l
 caps:∀c∈q.caps,qDL c
 user:0≤q.user∧q.user≤1000000
theorem qUb{us:List Int}(h:∀u∈us,1≤u∧u≤1000000):0≤us.headD 0∧us.headD 0≤1000000:=by
 cases us with
 | nil=>exact⟨by decide,by decide⟩
 | cons u us=>have:= h u List.mem_cons_self;exact⟨by show 0≤u;omega,this.2⟩
theorem qYH{l:Nat}{xs:List (List (List Cp))}(h:∀x∈xs,∀y∈x,∀z∈y,qDL z):∀(ps:List (B×Nat×Nat×Nat)) (us:List Int),(∀p∈ps,p.1.length≤2000)→(∀u∈us,1≤u∧u≤1000000)→(zFC l xs ps us).length=ps.length∧∀q∈zFC l xs ps us,zLR l q
 | [],_,_,_=>⟨rfl,fun x hx=>by cases hx⟩
 | p::ps,us,hp,hu=>by
  obtain⟨h1,h2⟩:=qYH (l:=l) h ps us.tail (fun q hq=>hp q (List.mem_cons_of_mem _ hq)) (fun u hu'=>hu u (List.mem_of_mem_tail hu'))
  refine⟨by simp[zFC,h1],fun q hq=>?_⟩
  rcases List.mem_cons.1 hq with rfl | hq
  ·exact⟨hp p List.mem_cons_self,(qQ9 h _ _ l 0).1,(qQ9 h _ _ l 0).2,qUb hu⟩
  ·exact h2 q hq
theorem zHO{l:Nat}{xs:List (List (List Cp))}(h:∀x∈xs,∀y∈x,∀z∈y,qDL z):∀(ps:List (B×Nat×Nat×Nat)) (us:List Int),(∀p∈ps,p.1.length≤2000)→(∀u∈us,1≤u∧u≤1000000)→(zAX l xs ps us).length=ps.length∧∀q∈zAX l xs ps us,zLR l q
 | [],_,_,_=>⟨rfl,fun x hx=>by cases hx⟩
 | p::ps,us,hp,hu=>by
  obtain⟨h1,h2⟩:=qYH (l:=l) h ps us.tail (fun q hq=>hp q (List.mem_cons_of_mem _ hq)) (fun u hu'=>hu u (List.mem_of_mem_tail hu'))
  refine⟨by simp[zAX,h1],fun q hq=>?_⟩
  rcases List.mem_cons.1 hq with rfl | hq
  ·exact⟨hp p List.mem_cons_self,(qLY l).1,(qLY l).2,qUb hu⟩
  ·exact h2 q hq
theorem qW7(r:Nat):(rJ r).length≤16∧(∀p∈rJ r,p.1.length≤2000)∧∀c∈(rJ r).map (·.2.2.2),c≤20:=by
 have h4:(rJ 4).length≤16∧(∀p∈rJ 4,p.1.length≤2000)∧∀c∈(rJ 4).map (·.2.2.2),c≤20:=⟨by decide,by decide,by decide⟩
 rcases r with _ | _ | _ | _ | r
 ·exact⟨by decide,by decide,by decide⟩
 ·exact⟨by decide,by decide,by decide⟩
 ·exact⟨by decide,by decide,by decide⟩
 ·exact⟨by decide,by decide,by decide⟩
 ·exact h4
theorem zFD{r l:Nat}{shape:Int}(hl:l≤1)(hr:dI shape 5=(r:Int))(hs:dI (w64 (shape.tdiv 5)) 2=(l:Int)):∃x,(mW r l shape ns).G x∧qLV x.1:=by
 obtain⟨h1,h2,h3⟩:=qW7 r
 have hq5:=mX shape (n:=5) (by decide)
 have hq2:=mX (w64 (shape.tdiv 5)) (n:=2) (by decide)
 have e:∃x,(qQ8 ns (rJ r).length 0 fun us=>allT ns (l+1) ((rJ r).map (·.2.2.2)) 0 fun xs=>ret (⟨zHN (l+1),zAX (l+1) xs (rJ r) us⟩,())).G x∧qLV x.1:=by
  refine qOH _ _ fun us hus hu=>qYG (by omega) _ h3 (by decide) (by rw[List.length_map];omega) fun xs hxs=>⟨_,rfl,?_⟩
  obtain⟨g1,g2⟩:=zHO (l:=l+1) hxs (rJ r) us h2 hu
  have hlab:(zHN (l+1)).length≤3∧∀x∈zHN (l+1),x.length≤2000:=by
   rcases l with _ | _ | l
   ·exact⟨by decide,by decide⟩
   ·exact⟨by decide,by decide⟩
   ·omega
  refine⟨⟨hlab.1,by show(zAX _ _ _ _).length≤16;omega,hlab.2,fun q hq=>⟨by rw[(g2 q hq).len];omega,(g2 q hq).path⟩⟩,fun q hq=>⟨(g2 q hq).user.1,by have:= (g2 q hq).user.2;omega⟩,fun q hq x hx=>?_⟩
  obtain⟨c1,c2,c3⟩:=(g2 q hq).caps x hx
  exact⟨⟨c1,by omega⟩,⟨by omega,by omega⟩⟩
 obtain⟨x,h4,h5⟩:=e
 refine⟨x,?_,h5⟩
 unfold mW
 exact bB hq2.1 (bB (by rw[hq2.2];simp[hs]) (bB hq5.1 (bB (by rw[hq5.2];simp[hr]) h4)))
theorem zKn:qWu:=by
 have key:∀(shape:Int) (ns:List Int),∃x,(uF (shape,ns,()))=some x∧qLV x.1:=by
  intro shape ns
  have h5:=oK shape (n:=5) (by decide) (by decide)
  have h2:=oK (w64 (shape.tdiv 5)) (n:=2) (by decide) (by decide)
  have hq5:=mX shape (n:=5) (by decide)
  have hq2:=mX (w64 (shape.tdiv 5)) (n:=2) (by decide)
  have ew:=qYr (shape,ns,())
  simp only[hq5.2,hq2.2] at ew
  have fin:∀(r l:Nat),l≤1→dI shape 5=(r:Int)→dI (w64 (shape.tdiv 5)) 2=(l:Int)→(∀x,(oI (r:Int) (l:Int) (shape,ns,())).G x=(mW r l shape ns).G x)→∃x,(uF (shape,ns,()))=some x∧qLV x.1:=by
   intro r l hl hr hs hV
   obtain⟨x,hx,hg⟩:=zFD (ns:=ns) hl hr hs
   rw[hr,hs] at ew
   exact⟨x,ew.trans (DT.qUN (Eq.mpr (hV x) hx)),hg⟩
  have h5':dI shape 5=0∨dI shape 5=1∨dI shape 5=2∨dI shape 5=3∨dI shape 5=4:=by omega
  have h2':dI (w64 (shape.tdiv 5)) 2=0∨dI (w64 (shape.tdiv 5)) 2=1:=by omega
  rcases h2' with e2 | e2
  ·rcases h5' with e | e | e | e | e
   ·exact fin 0 0 (by decide) e e2 (qWw shape ns)
   ·exact fin 1 0 (by decide) e e2 (qWy shape ns)
   ·exact fin 2 0 (by decide) e e2 (qW2 shape ns)
   ·exact fin 3 0 (by decide) e e2 (qW4 shape ns)
   ·exact fin 4 0 (by decide) e e2 (qW0 shape ns)
  ·rcases h5' with e | e | e | e | e
   ·exact fin 0 1 (by decide) e e2 (qWx shape ns)
   ·exact fin 1 1 (by decide) e e2 (qWz shape ns)
   ·exact fin 2 1 (by decide) e e2 (qW3 shape ns)
   ·exact fin 3 1 (by decide) e e2 (qW5 shape ns)
   ·exact fin 4 1 (by decide) e e2 (qW1 shape ns)
 refine⟨fun shape ns=>?_,fun shape ns=>?_⟩
 ·obtain⟨x,h1,_⟩:=key shape ns
  show(uF (shape,ns,())).isSome=true
  rw[h1];rfl
 ·obtain⟨x,h1,h2⟩:=key shape ns
  show qLV ((uF (shape,ns,())).getD ((dCf,()):Cf×Unit)).1
  rw[h1];exact h2
end Go.Proofs.YtehpnjmgjmkjaaaGreatDoor
