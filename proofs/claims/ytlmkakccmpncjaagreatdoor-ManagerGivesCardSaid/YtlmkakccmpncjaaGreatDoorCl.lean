/- Part of the proof: texts Ci. No conditions. -/
import Derived.Test.YtlmkakccmpncjaaGreatDoorCh
import Derived.Test.YtlmkakccmpncjaaGreatDoorCi
import Derived.Test.YtlmkakccmpncjaaGreatDoorCj
import Derived.Test.YtlmkakccmpncjaaGreatDoorCk
set_option linter.all false
namespace Go.Proofs.YtlmkakccmpncjaaGreatDoor
open Go Go.W Go.Proofs DT
set_option maxRecDepth 100000
def cZ(k n:Int):Int:=bif decide (k.tmod n<0) then w64 (k.tmod n+n) else k.tmod n
theorem mI(k:Int){n:Int}(hn:n≠0):jF k n=true∧cK k n=(cZ k n,()):=zBS (by
 unfold qNJ cZ
 have e:(!decide (n=0))=true:=by simp[hn]
 refine aF ?_
 simp only[dD,eG,cB,jM,e,cond_true]
 cases decide (k.tmod n<0)<;>rfl)
theorem oG(k:Int){n:Int}(h0:0<n)(hn:n≤1000000000):0≤cZ k n∧cZ k n<n:=wZ k h0 hn
variable {ns:List Int} {P:RG→Prop}
theorem zPh{i:Nat}{K:Int→DT RG}(h:∀u,1≤u→u≤1000000→∃x,(K u).G x∧P x):∃x,(uJ ns i K).G x∧P x:=by
 have hw:=oG (ns.getD i 0) (n:=20000) (by decide) (by decide)
 have hq:=mI (ns.getD i 0) (n:=20000) (by decide)
 obtain⟨x,h1,h2⟩:=h 1000000 (by decide) (by decide)
 obtain⟨y,h3,h4⟩:=h (w64 (1+cZ (ns.getD i 0) 20000)) (by rw[dI]<;>omega) (by rw[dI]<;>omega)
 unfold uJ
 cases hi:decide ((i:Int)<(ns.length:Int)) with
 | false=>exact⟨x,aN (((),(),1000000,()),()) rfl h1,h2⟩
 | true =>
  cases hm:Int.tmod (ns.getD i 0) 3==0 with
  | false=>exact⟨x,aN (((),(),1000000,()),()) rfl h1,h2⟩
  | true =>
   refine⟨y,aN (((),(),w64 (1+cZ (ns.getD i 0) 20000),()),()) ?_ h3,h4⟩
   refine aF ?_
   simp only[dD,eG,cB,hq.1,hq.2,cond_true,fq]
theorem qIW{i:Int}(h:0≤i):tN ns i=true:=(zKn h).1
theorem zPi{a b left:Int}{K:Int→DT RG}(ha:0≤a)(hb:0≤b)(hl:0≤left)(hl2:left≤10000)(h:∀n,0≤n→n≤left→∃x,(K n).G x∧P x):∃x,(nJ ns a b left K).G x∧P x:=by
 have e1:w64 (left+1)=left+1:=by rw[dI]<;>omega
 have hw:=oG (bQ ns a).1 (n:=left+1) (by omega) (by omega)
 have hq:=mI (bQ ns a).1 (n:=left+1) (by omega)
 have hw4:=oG (bQ ns b).1 (n:=4) (by decide) (by decide)
 have hq4:=mI (bQ ns b).1 (n:=4) (by decide)
 have hp:=qDF (k:=(bQ ns b).1) (n:=4) (m:=4) rfl (by decide) (by decide)
 have hp:(decide (0≤cZ (bQ ns b).1 4)&&decide (cZ (bQ ns b).1 4<4))=true∧Nat.blt (cZ (bQ ns b).1 4).toNat 4=true:=hp
 have ht:=Int.tdiv_nonneg hl (by decide:(0:Int)≤2)
 have ht2:left.tdiv 2≤left:=by rw[Int.tdiv_eq_ediv_of_nonneg hl];omega
 have e2:w64 (left.tdiv 2)=left.tdiv 2:=by rw[dI]<;>omega
 generalize hg:(([]++[0,w64 (left.tdiv 2),left,cZ (bQ ns a).1 (left+1)]).getD (0+(cZ (bQ ns b).1 4).toNat) 0:Int)=n
 have hn:0≤n∧n≤left:=by
  rw[←hg,e2,dm,l6]
  rcases hk:(cZ (bQ ns b).1 4).toNat with _ | _ | _ | _ | k
  ·exact⟨pq 0,hl⟩
  ·exact⟨ht,ht2⟩
  ·exact⟨hl,pq _⟩
  ·exact⟨hw.1,by have:= hw.2;show cZ _ _≤left;omega⟩
  ·omega
 obtain⟨x,h1,h2⟩:=h n hn.1 hn.2
 refine⟨x,aN (n,()) ?_ h1,h2⟩
 refine aF ?_
 simp only[dD,cB,e1,qIW ha,qIW hb,hq.1,hq4.1,hq.2,hq4.2,hp.1,dm,hp.2,cond_true]
 rw[dm] at hg
 rw[hg]
theorem zL6{a b n:Int}{K:Int→DT RG}(ha:0≤a)(hb:0≤b)(hl:0≤n)(hl2:n≤10000)(h:∀m,n≤m→m≤10000→∃x,(K m).G x∧P x):∃x,(mJ ns a b n K).G x∧P x:=by
 have e1:w64 (w64 (10000-n)+1)=10001-n:=by rw[dI (n:=10000-n) (by omega) (by omega),dI]<;>omega
 have hw:=oG (bQ ns a).1 (n:=10001-n) (by omega) (by omega)
 have hq:=mI (bQ ns a).1 (n:=10001-n) (by omega)
 have hw4:=oG (bQ ns b).1 (n:=3) (by decide) (by decide)
 have hq4:=mI (bQ ns b).1 (n:=3) (by decide)
 have hp:=qDF (k:=(bQ ns b).1) (n:=3) (m:=3) rfl (by decide) (by decide)
 have hp:(decide (0≤cZ (bQ ns b).1 3)&&decide (cZ (bQ ns b).1 3<3))=true∧Nat.blt (cZ (bQ ns b).1 3).toNat 3=true:=hp
 generalize hg:(([]++[10000,n,w64 (n+cZ (bQ ns a).1 (10001-n))]).getD (0+(cZ (bQ ns b).1 3).toNat) 0:Int)=m
 have hn:n≤m∧m≤10000:=by
  rw[←hg,dm,l6,dI (n:=n+cZ (bQ ns a).1 (10001-n)) (by omega) (by omega)]
  rcases hk:(cZ (bQ ns b).1 3).toNat with _ | _ | _ | k
  ·exact⟨hl2,pq _⟩
  ·exact⟨pq _,hl2⟩
  ·exact⟨by show n≤n+cZ _ _;omega,by show n+cZ _ _≤10000;omega⟩
  ·omega
 obtain⟨x,h1,h2⟩:=h m hn.1 hn.2
 refine⟨x,aN (m,()) ?_ h1,h2⟩
 refine aF ?_
 simp only[dD,cB,e1,qIW ha,qIW hb,hq.1,hq4.1,hq.2,hq4.2,hp.1,dm,hp.2,cond_true]
 rw[dm] at hg
 rw[hg]
def qEe(c:Cp):Prop:=0≤c.least∧c.least≤c.most∧c.most≤10000
theorem jU{x:Int}(h:0≤x)(h2:x≤1000000):w64 x=x:=by rw[dI]<;>omega
theorem qTG{i k:Int}(hi:0≤i)(hi2:i≤20)(hk:0≤k)(hk2:k≤20):∀(c:Nat) {j left:Int} {K:List Cp→DT RG},0≤j→j+c≤100→0≤left→left≤10000 →
  (∀l:List Cp,l.length=c→(∀x∈l,qEe x)→∃x,(K l).G x∧P x)→∃x,(qZi ns i k c j left K).G x∧P x
 | 0,j,left,K,_,_,_,_,h=>h [] rfl (fun x hx=>by cases hx)
 | 1,j,left,K,hj,hj2,hl,hl2,h=>by
  have hm:∃x,(mJ ns (w64 (j+k)) (w64 (i+w64 (2*j))) left fun m=>K [⟨left,m⟩]).G x∧P x:=by
   rw[jU (x:=j+k) (by omega) (by omega),jU (x:=2*j) (by omega) (by omega),jU (x:=i+2*j) (by omega) (by omega)]
   refine zL6 (by omega) (by omega) hl hl2 fun m h1 h2=>h [⟨left,m⟩] rfl fun x hx=>?_
   cases ib.1 hx
   exact⟨hl,h1,h2⟩
  obtain⟨x,h1,h2⟩:=hm
  exact⟨x,aN (left,()) rfl h1,h2⟩
 | c+2,j,left,K,hj,hj2,hl,hl2,h=>by
  unfold qZi
  have hij:0≤i*j:=Int.mul_nonneg hi hj
  have hij2:i*j≤20*100:=Int.mul_le_mul hi2 (by omega) hj (by decide)
  rw[jU (x:=i+j) (by omega) (by omega),jU (x:=i+j+k) (by omega) (by omega),jU (x:=i*j) (by omega) (by omega),jU (x:=i*j+k) (by omega) (by omega),
   jU (x:=j+k) (by omega) (by omega),jU (x:=2*j) (by omega) (by omega),jU (x:=i+2*j) (by omega) (by omega)]
  refine zPi (by omega) (by omega) hl hl2 fun n h1 h2=>zL6 (by omega) (by omega) h1 (by omega) fun m h3 h4=>?_
  rw[jU (x:=left-n) (by omega) (by omega)]
  refine qTG hi hi2 hk hk2 (c+1) (by omega) (by omega) (by omega) (by omega) fun l hl3 hl4=>h (⟨n,m⟩::l) (by simp[hl3]) fun x hx=>?_
  rcases fo.1 hx with rfl | hx
  ·exact⟨h1,h3,h4⟩
  ·exact hl4 x hx
theorem qOl:∀(n i:Nat) {K:List Int→DT RG},(∀us:List Int,us.length=n→(∀u∈us,1≤u∧u≤1000000)→∃x,(K us).G x∧P x)→∃x,(qPU ns n i K).G x∧P x
 | 0,i,K,h=>h [] rfl (fun x hx=>by cases hx)
 | n+1,i,K,h=>zPh fun u h1 h2=>qOl n (i+1) fun us h3 h4=>h (u::us) (by simp[h3]) fun x hx=>by
  rcases fo.1 hx with rfl | hx
  ·exact⟨h1,h2⟩
  ·exact h4 x hx
theorem qTH{i:Int}{c:Nat}(hi:0≤i)(hi2:i≤20)(hc:c≤20):∀(l:Nat) {k:Int} {K:List (List Cp)→DT RG},0≤k→k+l≤20 →
  (∀xs:List (List Cp),(∀x∈xs,∀y∈x,qEe y)→∃x,(K xs).G x∧P x)→∃x,(zHr ns i c l k K).G x∧P x
 | 0,k,K,_,_,h=>h [] (fun x hx=>by cases hx)
 | l+1,k,K,hk,hk2,h=>qTG hi hi2 hk (by omega) c (by decide) (by omega) (by decide) (by decide) fun x _ h2=>qTH hi hi2 hc l (by omega) (by omega) fun xs h3=>h (x::xs) fun y hy=>by
  rcases fo.1 hy with rfl | hy
  ·exact h2
  ·exact h3 y hy
theorem qZj{l:Nat}(hl:l≤20):∀(cs:List Nat) {i:Int} {K:List (List (List Cp))→DT RG},(∀c∈cs,c≤20)→0≤i→i+cs.length≤20 →
  (∀xs:List (List (List Cp)),(∀x∈xs,∀y∈x,∀z∈y,qEe z)→∃x,(K xs).G x∧P x)→∃x,(allT ns l cs i K).G x∧P x
 | [],i,K,_,_,_,h=>h [] (fun x hx=>by cases hx)
 | c::cs,i,K,hc,hi,hi2,h=>by
  simp only[dw] at hi2
  refine qTH hi (by omega) (hc c j4) l (by decide) (by omega) fun x h2=>qZj hl cs (fun c hc'=>hc c (gy _ hc')) (by omega) (by omega) fun xs h3=>h (x::xs) fun y hy=>?_
  rcases fo.1 hy with rfl | hy
  ·exact h2
  ·exact h3 y hy
theorem qWG{α:Type}{l:List α}{n:Nat}{d:α}:l.getD n d∈l∨l.getD n d=d:=by
 rcases iw n l.length with h | h
 ·left;simp[List.getD,h]
 ·right;simp[List.getD,h]
theorem qPV{xs:List (List (List Cp))}(h:∀x∈xs,∀y∈x,∀z∈y,qEe z)(p j:Nat):∀l k,(zHs xs p j l k).length=l∧∀c∈zHs xs p j l k,qEe c
 | 0,_=>⟨rfl,fun x hx=>by cases hx⟩
 | l+1,k=>by
  obtain⟨h1,h2⟩:=qPV h p j l (k+1)
  refine⟨by simp[zHs,h1],fun c hc=>?_⟩
  rcases fo.1 hc with rfl | hc
  ·have d0:qEe ⟨0,0⟩:=⟨by decide,by decide,by decide⟩
   rcases qWG (l:=(xs.getD p []).getD k []) (n:=j) (d:=(⟨0,0⟩:Cp)) with e | e
   ·rcases qWG (l:=xs.getD p []) (n:=k) (d:=([]:List Cp)) with e2 | e2
    ·rcases qWG (l:=xs) (n:=p) (d:=([]:List (List Cp))) with e3 | e3
     ·exact h _ e3 _ e2 _ e
     ·rw[e3] at e2;cases e2
    ·rw[e2] at e;cases e
   ·rw[e];exact d0
  ·exact h2 c hc
theorem qLz:∀l,(qTF l).length=l∧∀c∈qTF l,qEe c
 | 0=>⟨rfl,fun x hx=>by cases hx⟩
 | l+1=>by
  obtain⟨h1,h2⟩:=qLz l
  refine⟨by simp[qTF,h1],fun c hc=>?_⟩
  rcases fo.1 hc with rfl | hc
  ·exact⟨by decide,by decide,by decide⟩
  ·exact h2 c hc
structure zPj(l:Nat)(q:Qu):Prop where
 path:q.path.length≤2000
 len:q.caps.length=l
 caps:∀c∈q.caps,qEe c
 user:0≤q.user∧q.user≤1000000
theorem qTI{us:List Int}(h:∀u∈us,1≤u∧u≤1000000):0≤us.headD 0∧us.headD 0≤1000000:=by
 cases us with
 | nil=>exact⟨by decide,by decide⟩
 | cons u us=>have:= h u j4;exact⟨by show 0≤u;omega,this.2⟩
theorem qZk{l:Nat}{xs:List (List (List Cp))}(h:∀x∈xs,∀y∈x,∀z∈y,qEe z):∀(ps:List (B×Nat×Nat×Nat)) (us:List Int),(∀p∈ps,p.1.length≤2000)→(∀u∈us,1≤u∧u≤1000000)→(zHt l xs ps us).length=ps.length∧∀q∈zHt l xs ps us,zPj l q
 | [],_,_,_=>⟨rfl,fun x hx=>by cases hx⟩
 | p::ps,us,hp,hu=>by
  obtain⟨h1,h2⟩:=qZk (l:=l) h ps us.tail (fun q hq=>hp q (gy _ hq)) (fun u hu'=>hu u (List.mem_of_mem_tail hu'))
  refine⟨by simp[zHt,h1],fun q hq=>?_⟩
  rcases fo.1 hq with rfl | hq
  ·exact⟨hp p j4,(qPV h _ _ l 0).1,(qPV h _ _ l 0).2,qTI hu⟩
  ·exact h2 q hq
theorem zKp{l:Nat}{xs:List (List (List Cp))}(h:∀x∈xs,∀y∈x,∀z∈y,qEe z):∀(ps:List (B×Nat×Nat×Nat)) (us:List Int),(∀p∈ps,p.1.length≤2000)→(∀u∈us,1≤u∧u≤1000000)→(zCm l xs ps us).length=ps.length∧∀q∈zCm l xs ps us,zPj l q
 | [],_,_,_=>⟨rfl,fun x hx=>by cases hx⟩
 | p::ps,us,hp,hu=>by
  obtain⟨h1,h2⟩:=qZk (l:=l) h ps us.tail (fun q hq=>hp q (gy _ hq)) (fun u hu'=>hu u (List.mem_of_mem_tail hu'))
  refine⟨by simp[zCm,h1],fun q hq=>?_⟩
  rcases fo.1 hq with rfl | hq
  ·exact⟨hp p j4,(qLz l).1,(qLz l).2,qTI hu⟩
  ·exact h2 q hq
theorem qWH(r:Nat):(rZ r).length≤16∧(∀p∈rZ r,p.1.length≤2000)∧∀c∈(rZ r).map (·.2.2.2),c≤20:=by
 have h4:(rZ 4).length≤16∧(∀p∈rZ 4,p.1.length≤2000)∧∀c∈(rZ 4).map (·.2.2.2),c≤20:=⟨by decide,by decide,by decide⟩
 rcases r with _ | _ | _ | _ | r
 ·exact⟨by decide,by decide,by decide⟩
 ·exact⟨by decide,by decide,by decide⟩
 ·exact⟨by decide,by decide,by decide⟩
 ·exact⟨by decide,by decide,by decide⟩
 ·exact h4
theorem zHu{r l:Nat}{shape:Int}(hl:l≤1)(hr:cZ shape 5=(r:Int))(hs:cZ (w64 (shape.tdiv 5)) 2=(l:Int)):∃x,(mH r l shape ns).G x∧qLx x.1:=by
 obtain⟨h1,h2,h3⟩:=qWH r
 have hq5:=mI shape (n:=5) (by decide)
 have hq2:=mI (w64 (shape.tdiv 5)) (n:=2) (by decide)
 have e:∃x,(qPU ns (rZ r).length 0 fun us=>allT ns (l+1) ((rZ r).map (·.2.2.2)) 0 fun xs=>ret (⟨zKo (l+1),zCm (l+1) xs (rZ r) us⟩,())).G x∧qLx x.1:=by
  refine qOl _ _ fun us hus hu=>qZj (by omega) _ h3 (by decide) (by rw[jc];omega) fun xs hxs=>⟨_,rfl,?_⟩
  obtain⟨g1,g2⟩:=zKp (l:=l+1) hxs (rZ r) us h2 hu
  have hlab:(zKo (l+1)).length≤3∧∀x∈zKo (l+1),x.length≤2000:=by
   rcases l with _ | _ | l
   ·exact⟨by decide,by decide⟩
   ·exact⟨by decide,by decide⟩
   ·omega
  refine⟨⟨hlab.1,by show(zCm _ _ _ _).length≤16;omega,hlab.2,fun q hq=>⟨by rw[(g2 q hq).len];omega,(g2 q hq).path⟩⟩,fun q hq=>⟨(g2 q hq).user.1,by have:= (g2 q hq).user.2;omega⟩,fun q hq x hx=>?_⟩
  obtain⟨c1,c2,c3⟩:=(g2 q hq).caps x hx
  exact⟨⟨c1,by omega⟩,⟨by omega,by omega⟩⟩
 obtain⟨x,h4,h5⟩:=e
 refine⟨x,?_,h5⟩
 unfold mH
 exact aH hq2.1 (aH (by rw[hq2.2];simp[hs]) (aH hq5.1 (aH (by rw[hq5.2];simp[hr]) h4)))
theorem zNl:qW3:=by
 have key:∀(shape:Int) (ns:List Int),∃x,(uZ (shape,ns,()))=some x∧qLx x.1:=by
  intro shape ns
  have h5:=oG shape (n:=5) (by decide) (by decide)
  have h2:=oG (w64 (shape.tdiv 5)) (n:=2) (by decide) (by decide)
  have hq5:=mI shape (n:=5) (by decide)
  have hq2:=mI (w64 (shape.tdiv 5)) (n:=2) (by decide)
  have ew:=qYL (shape,ns,())
  simp only[hq5.2,hq2.2] at ew
  have fin:∀(r l:Nat),l≤1→cZ shape 5=(r:Int)→cZ (w64 (shape.tdiv 5)) 2=(l:Int)→(∀x,(nZ (r:Int) (l:Int) (shape,ns,())).G x=(mH r l shape ns).G x)→∃x,(uZ (shape,ns,()))=some x∧qLx x.1:=by
   intro r l hl hr hs hV
   obtain⟨x,hx,hg⟩:=zHu (ns:=ns) hl hr hs
   rw[hr,hs] at ew
   exact⟨x,ew.trans (DT.qUE (Eq.mpr (hV x) hx)),hg⟩
  have h5':cZ shape 5=0∨cZ shape 5=1∨cZ shape 5=2∨cZ shape 5=3∨cZ shape 5=4:=by omega
  have h2':cZ (w64 (shape.tdiv 5)) 2=0∨cZ (w64 (shape.tdiv 5)) 2=1:=by omega
  rcases h2' with e2 | e2
  ·rcases h5' with e | e | e | e | e
   ·exact fin 0 0 (by decide) e e2 (qW6 shape ns)
   ·exact fin 1 0 (by decide) e e2 (qW8 shape ns)
   ·exact fin 2 0 (by decide) e e2 (qWC shape ns)
   ·exact fin 3 0 (by decide) e e2 (qWE shape ns)
   ·exact fin 4 0 (by decide) e e2 (qWA shape ns)
  ·rcases h5' with e | e | e | e | e
   ·exact fin 0 1 (by decide) e e2 (qW7 shape ns)
   ·exact fin 1 1 (by decide) e e2 (qW9 shape ns)
   ·exact fin 2 1 (by decide) e e2 (qWD shape ns)
   ·exact fin 3 1 (by decide) e e2 (qWF shape ns)
   ·exact fin 4 1 (by decide) e e2 (qWB shape ns)
 refine⟨fun shape ns=>?_,fun shape ns=>?_⟩
 ·obtain⟨x,h1,_⟩:=key shape ns
  show(uZ (shape,ns,())).isSome=true
  rw[h1];rfl
 ·obtain⟨x,h1,h2⟩:=key shape ns
  show qLx ((uZ (shape,ns,())).getD ((dCf,()):Cf×Unit)).1
  rw[h1];exact h2
end Go.Proofs.YtlmkakccmpncjaaGreatDoor
