/- Part of the proof: texts Bs Bt. No conditions. -/
import Derived.Test.YtlmkakccmpncjaaGreatDoorBi
set_option linter.all false
namespace Go.Proofs.YtlmkakccmpncjaaGreatDoor
open Sum
open Go Go.W Go.Proofs
open Go.W.DT (ret need br bad loop join)
set_option maxRecDepth 100000
theorem qYW{σ ρ:Type}(lo n:Nat)(enc:Int→σ){body:σ→DT (σ ⊕ ρ)}(p:Nat→Option ρ)(fin:ρ)
  (h1:∀i:Nat,lo≤i→i<n→(body (enc (i:Int))).G (match p i with | some r=>.inr r | none=>.inl (enc ((i+1:Nat):Int))))
  (h3:∀i:Nat,n≤i→(lo≤n→i=n)→(∀j,lo≤j→j<n→p j=none)→(body (enc (i:Int))).G (.inr fin)):(DT.loop (enc (lo:Int)) body).G (((List.range' lo (n-lo)).findSome? p).getD fin):=by
 have key:∀(m i:Nat),n-i<m→lo≤i→(lo≤n→i≤n)→(∀j,lo≤j→j<i→p j=none)→DT.yO (fun s y=>(body s).G y) m (enc (i:Int)) (((List.range' i (n-i)).findSome? p).getD fin):=by
  intro m
  induction m with
  | zero=>intro i h;omega
  | succ m ih =>
   intro i hm hlo hle hj
   rcases iw i n with hlt | hge
   ·have e:List.range' i (n-i)=i::List.range' (i+1) (n-(i+1)):=by
     have: n-i=(n-(i+1))+1:=by omega
     rw[this,sj]
    have hb:=h1 i hlo hlt
    rw[e,tq]
    cases hp:p i with
    | some r=>rw[hp] at hb;exact⟨.inr r,hb,rfl⟩
    | none =>
     rw[hp] at hb
     refine⟨.inl _,hb,ih (i+1) (by omega) (by omega) (fun _=>hlt) fun j h1 h2=>?_⟩
     rcases iw j i with h | h
     ·exact hj j h1 h
     ·have: j=i:=by omega
      subst this;exact hp
   ·have e:n-i=0:=by omega
    rw[e]
    exact⟨.inr fin,h3 i hge (fun h=>by have:= hle h;omega) (fun j h1 h2=>hj j h1 (by omega)),rfl⟩
 exact DT.pF.2 ⟨_,key _ lo (jy _) (df _) (fun h=>h) (fun j h1 h2=>by omega)⟩
theorem zCf{ρ:Type}(q:Nat→Bool)(r fin:ρ)(l:List Nat):(l.findSome? fun i=>bif q i then some r else none).getD fin=bif l.any q then r else fin:=by
 induction l with
 | nil=>rfl
 | cons a l ih =>
  rw[tq,List.any_cons]
  cases q a with
  | true=>rfl
  | false=>exact ih
theorem qC7{σ ρ:Type}(lo n:Nat)(enc:Int→σ){body:σ→DT (σ ⊕ ρ)}(q:Nat→Bool)(out fin:ρ)
  (h1:∀i:Nat,lo≤i→i<n→(body (enc (i:Int))).G (bif q i then .inr out else .inl (enc ((i+1:Nat):Int))))
  (h3:∀i:Nat,n≤i→(lo≤n→i=n)→(∀j,lo≤j→j<n→q j=false)→(body (enc (i:Int))).G (.inr fin)):(DT.loop (enc (lo:Int)) body).G (bif (List.range' lo (n-lo)).any q then out else fin):=by
 rw[←zCf]
 refine qYW lo n enc (fun i=>bif q i then some out else none) fin (fun i a b=>?_) (fun i a b c=>h3 i a b fun j d e=>?_)
 ·have:= h1 i a b
  revert this
  cases q i<;>exact fun h=>h
 ·have:= c j d e
  revert this
  cases q j<;>simp
theorem qWt{ρ:Type}{p:Nat→Option ρ}{lo k:Nat}{fin:ρ}{ok:ρ→Prop}(hf:∀i r,lo≤i→i<lo+k→p i=some r→¬ok r)(h:ok (((List.range' lo k).findSome? p).getD fin)):∀i,lo≤i→i<lo+k→p i=none:=by
 intro i h1 h2
 cases hp:p i with
 | none=>rfl
 | some r =>
  cases hs:(List.range' lo k).findSome? p with
  | none =>
   have:= List.findSome?_eq_none_iff.1 hs i (mh.2 ⟨h1,h2⟩)
   rw[hp] at this;cases this
  | some v =>
   rw[hs] at h
   obtain⟨j,hj,e⟩:=List.exists_of_findSome?_eq_some hs
   have hj:=mh.1 hj
   exact absurd h (hf j v hj.1 hj.2 e)
def zNi(c:UInt8):Bool:=(decide ((c.toNat:Int)<97)||decide ((c.toNat:Int)>122))&&(decide ((c.toNat:Int)<48)||decide ((c.toNat:Int)>57))&&((c.toNat:Int) != 45)
def qC8(s:B):Bool:=!(decide ((s.length:Int)<1)||decide ((s.length:Int)>12)||s.any zNi)
theorem qYX(s:B):qAg s=true∧qDn s=(qC8 s,()):=zJG (by
 unfold qY2 qC8
 cases decide ((s.length:Int)<1) with
 | true=>exact aF rfl
 | false =>
 cases hl:decide ((s.length:Int)>12) with
 | true=>exact aF rfl
 | false =>
 simp only[eY,ou]
 have hn:s.length≤1000000000:=by simp at hl;omega
 refine qIe s (OfNat.ofNat 0:UInt8) (fun i=>(i,())) zNi (fun b=>(!b,())) (fun i hi=>?_) ?_
 ·have e1:decide (0≤(i:Int))=true:=by simp
  simp only[sS,e1,aY hi,aD hi hn]
  unfold zNi
  grind
 ·simp only[sS,bE])
def wY(s:B)(i:Nat):Bool:=!(decide (i<s.length)&&((s.getD i (OfNat.ofNat 0)).toNat:Int) != 46)
def oF(s:B)(v:Nat×Nat)(i:Nat):(Nat×Nat) ⊕ Bool :=
 bif !wY s i then .inl v else bif !qC8 (aO v.1 i s)||(Nat.beq v.2 0&&!(aO v.1 i s==dZ)) then .inr false else .inl (i+1,v.2+1)
def qA(s:B):Bool:=Sum.elim (fun v=>decide ((v.2:Int)≤4)) id (goE (oF s) (List.range (s.length+1)) (0,0))
theorem qWu{s:B}{v w:Nat×Nat}{i:Nat}(h:oF s v i=.inl w):w=v∧wY s i=false∨w=(i+1,v.2+1)∧wY s i=true:=by
 unfold oF at h
 cases hs:wY s i with
 | false=>rw[hs] at h;exact .inl ⟨by simpa using h.symm,rfl⟩
 | true =>
  rw[hs] at h
  cases hx : !qC8 (aO v.1 i s)||(Nat.beq v.2 0&&!(aO v.1 i s==dZ)) with
  | true=>rw[hx] at h;cases h
  | false=>rw[hx] at h;exact .inr ⟨by simpa using h.symm,rfl⟩
theorem zHd{α β γ σ ρ:Type}(l:List α)(d:α)(enc:Int→β→σ){body:σ→DT (σ ⊕ ρ)}(f:β→α→β ⊕ γ)(fin:β→ρ)(out:γ→ρ)(I:Nat→β→Prop)
  (hstep:∀(i:Nat) (b:β),i<l.length→I i b→Sum.elim (fun b'=>I (i+1) b'∧(body (enc (i:Int) b)).G (.inl (enc ((i+1:Nat):Int) b'))) (fun r=>(body (enc (i:Int) b)).G (.inr (out r))) (f b (l.getD i d)))
  (hend:∀b,I l.length b→(body (enc (l.length:Int) b)).G (.inr (fin b))) {b0:β} (h0:I 0 b0):(loop (enc 0 b0) body).G (Sum.elim fin out (goE f l b0)):=by
 refine iU l d enc (fun b a=>match f b a with | .inl b'=>.inl b' | .inr r=>.inr (out r)) fin I (fun i b hi hI=>?_) (fun b hb=>hend b hb) h0 (qLi f fin out l b0)
 have h1:=hstep i b hi hI
 cases hf:f b (l.getD i d) with
 | inl b'=>rw[hf] at h1;exact h1
 | inr r=>rw[hf] at h1;exact h1
theorem qWv{n i:Nat}(h:i<n):(List.range n).getD i 0=i:=by simp[List.getD,h]
theorem zCg{s:B}(hn:s.length≤1000000):qAW s=true∧qDt s=(qA s,()):=zB9 (by
 unfold qN4
 have e:(qA s,())=Sum.elim (fun v:Nat×Nat=>(decide ((v.2:Int)≤4),())) (fun b=>(b,())) (goE (oF s) (List.range (s.length+1)) (0,0)):=by
  unfold qA
  cases goE (oF s) (List.range (s.length+1)) (0,0)<;>rfl
 rw[e]
 refine zHd (List.range (s.length+1)) 0 (fun i (v:Nat×Nat)=>((v.1:Int),(v.2:Int),i,())) (oF s) (fun v=>(decide ((v.2:Int)≤4),())) (fun b=>(b,())) (fun i v=>v.1≤i∧v.2≤i) (fun i v hi hv=>?_) (fun v hv=>?_) (b0:=(0,0)) ⟨df 0,df 0⟩
 ·have hv:v.1≤i∧v.2≤i:=hv
  rw[ui] at hi
  rw[qWv hi]
  have e1:decide ((i:Int)≤(s.length:Int))=true:=by simp;omega
  have e2:decide (0≤(i:Int))=true:=by simp
  have e3:w64 ((i:Int)+1)=((i+1:Nat):Int):=by rw[dI]<;>omega
  have e4:w64 ((v.2:Int)+1)=((v.2+1:Nat):Int):=by rw[dI]<;>omega
  have e5:inB (v.1:Int) (i:Int) (s.length:Int)=true:=qDb.2 ⟨by omega,by omega,by omega⟩
  have e6:decide ((i:Int)<(s.length:Int))=decide (i<s.length):=by simp
  have e7:((v.2:Int)==0)=Nat.beq v.2 0:=by cases v.2<;>rfl
  have hq:=qYX (aO v.1 i s)
  simp only[di,e1,e2,e3,e4,e5,e6,e7,hq.1,hq.2,jQ,aW]
  cases hs:wY s i with
  | false =>
   have ef:oF s v i=.inl v:=by unfold oF;rw[hs];rfl
   rw[ef]
   refine⟨⟨by omega,by omega⟩,?_⟩
   unfold wY at hs
   simp only[Bool.not_eq_false',bn] at hs
   simp only[hs.1,hs.2,tT]
   exact aF (by simp only[sS])
  | true =>
   have ef:oF s v i=bif !qC8 (aO v.1 i s)||(Nat.beq v.2 0&&!(aO v.1 i s==dZ)) then .inr false else .inl (i+1,v.2+1):=by unfold oF;rw[hs];rfl
   rw[ef]
   have er:([OfNat.ofNat 114,OfNat.ofNat 111,OfNat.ofNat 111,OfNat.ofNat 116]:B)=dZ:=rfl
   rw[er]
   unfold wY at hs
   cases h1:decide (i<s.length) with
   | false =>
    simp only[tV]
    cases qC8 (aO v.1 i s) with
    | false=>exact aF (by simp only[sS])
    | true =>
     cases Nat.beq v.2 0 with
     | false=>exact⟨⟨by simp,by simp;omega⟩,aF (by simp only[sS,e3,e4])⟩
     | true =>
      cases aO v.1 i s==dZ with
      | false=>exact aF (by simp only[sS])
      | true=>exact⟨⟨by simp,by simp;omega⟩,aF (by simp only[sS,e3,e4])⟩
   | true =>
    have h2:(((s.getD i (OfNat.ofNat 0)).toNat:Int) != 46)=false:=by
     rw[h1] at hs;simpa using hs
    simp only[tT,h2]
    cases qC8 (aO v.1 i s) with
    | false=>exact aF (by simp only[sS])
    | true =>
     cases Nat.beq v.2 0 with
     | false=>exact⟨⟨by simp,by simp;omega⟩,aF (by simp only[sS,e3,e4])⟩
     | true =>
      cases aO v.1 i s==dZ with
      | false=>exact aF (by simp only[sS])
      | true=>exact⟨⟨by simp,by simp;omega⟩,aF (by simp only[sS,e3,e4])⟩
 ·have e1:decide (((List.range (s.length+1)).length:Int)≤(s.length:Int))=false:=by simp;omega
  exact aF (by simp only[sS,e1]))
def sM(c:Cf):Int :=
 bif decide ((c.labels.length:Int)<1)||decide ((c.labels.length:Int)>3)||decide ((c.queues.length:Int)>16) then 4
 else bif !(c.labels.getD 0 []==[]) then 12
 else bif (List.range' 1 (c.labels.length-1)).any (fun i=>!qC8 (c.labels.getD i [])) then 12
 else bif (List.range' 1 (c.labels.length-1)).any (fun i=>(List.range' 1 (i-1)).any fun k=>c.labels.getD i []==c.labels.getD k []) then 7 else 0
theorem zHe{α β:Type}{b:Bool}{x y:α}{u:β}:((bif b then x else y),u)=bif b then(x,u) else(y,u):=by cases b<;>rfl
theorem zCh(c:Cf):wP c=true∧qAj c=(sM c,()):=zBA (by
 unfold qN5 sM
 cases h1:decide ((c.labels.length:Int)<1) with
 | true=>exact aF rfl
 | false =>
 cases h2:decide ((c.labels.length:Int)>3) with
 | true=>exact aF rfl
 | false =>
 cases h3:decide ((c.queues.length:Int)>16) with
 | true=>exact aF rfl
 | false =>
 have hn:c.labels.length≤3:=by simp at h2;omega
 have hp:1≤c.labels.length:=by simp at h1;omega
 have e0:decide (0<(c.labels.length:Int))=true:=by simp;omega
 simp only[e0,eY,aW,oq,cond_false,fq]
 cases c.labels.getD 0 []==[] with
 | false=>exact aF rfl
 | true =>
 simp only[j6,eY,cond_false]
 simp only[zHe]
 refine qC7 1 c.labels.length (fun i=>(i,())) (fun i=>!qC8 (c.labels.getD i [])) (12,()) _ (fun i a b=>?_) (fun i a b _=>?_)
 ·have hq:=qYX (c.labels.getD i [])
  refine aF ?_
  simp only[sS,aY b,bB b,aD b (show c.labels.length≤1000000000 by omega),hq.1,hq.2]
  cases qC8 (c.labels.getD i [])<;>rfl
 ·have hi:=b hp
  subst hi
  simp only[bE,eY]
  have e:(inr (bif (List.range' 1 (c.labels.length-1)).any (fun i=>(List.range' 1 (i-1)).any fun k=>c.labels.getD i []==c.labels.getD k []) then(7,()) else(0,())):(Int×Unit) ⊕ (Int×Unit))=bif (List.range' 1 (c.labels.length-1)).any (fun i=>(List.range' 1 (i-1)).any fun k=>c.labels.getD i []==c.labels.getD k []) then inr (7,()) else inr (0,()):=by
   cases (List.range' 1 (c.labels.length-1)).any (fun i=>(List.range' 1 (i-1)).any fun k=>c.labels.getD i []==c.labels.getD k [])<;>rfl
  rw[e]
  refine qC7 1 c.labels.length (fun i=>(i,())) (fun i=>(List.range' 1 (i-1)).any fun k=>c.labels.getD i []==c.labels.getD k []) (inr (7,())) _ (fun i a b=>?_) (fun i a b _=>?_)
  ·simp only[aY b,jQ]
   have e:∀q:Bool,(bif q then inr (inr (7,())) else inl (((i+1:Nat):Int),()):(Int×Unit) ⊕ ((Int×Unit) ⊕ (Int×Unit)))=bif q then inr (inr (7,())) else inl (((i+1:Nat):Int),()):=fun q=>rfl
   refine qC7 1 i (fun k=>(k,())) (fun k=>c.labels.getD i []==c.labels.getD k []) (inr (inr (7,()))) (inl (((i+1:Nat):Int),())) (fun k a2 b2=>?_) (fun k a2 b2 _=>?_)
   ·refine aF ?_
    simp only[sS,aY b2,bB b,bB (wm b2 b),aD b2 (show i≤1000000000 by omega)]
    cases c.labels.getD i []==c.labels.getD k []<;>rfl
   ·have hk:=b2 a
    subst hk
    exact aF (by simp only[sS,bE,aD b (show c.labels.length≤1000000000 by omega)])
  ·have hi:=b hp
   subst hi
   exact aF (by simp only[sS,bE]))
def qT4(x:Cp):Bool:=decide (x.least<0)||decide (x.least>10000)||decide (x.most<0)||decide (x.most>10000)||decide (x.least>x.most)
def qB(c:Cf)(i:Nat):Int :=
 bif !qA (c.queues.getD i dQu).path then 12
 else bif decide ((i:Int)>0)&&(Op.bytesLess (c.queues.getD i dQu).path (c.queues.getD (i-1) dQu).path||(c.queues.getD i dQu).path==(c.queues.getD (i-1) dQu).path) then 7
 else bif decide ((i:Int)>0)&&!(dM c (eO (c.queues.getD i dQu).path)).2 then 12
 else bif decide ((c.queues.getD i dQu).user<1)||decide ((c.queues.getD i dQu).user>1000000)||(((c.queues.getD i dQu).caps.length:Int) != (c.labels.length:Int)) then 1
 else bif (c.queues.getD i dQu).caps.any qT4 then 1 else 0
theorem zHf{c:Cf}{i:Nat}(h:CfN 1000000 c)(hi:i<c.queues.length):qAl c (i:Int)=true∧qCe c (i:Int)=(qB c i,()):=zGl (by
 unfold qSS qB
 have hm:=h.qu _ (bL (d:=dQu) hi)
 have hp:=zCg hm.2
 have hn:=h.queues
 have hcl:(c.queues.getD i dQu).caps.length≤1000000000:=bq hm.1 (by decide)
 have hs:sm (c.queues.getD i dQu).path.length=true:=eH.2 (bq hm.2 (by decide))
 have hc:cfN 1000000000 c=true:=kU.2 ⟨bq h.labels (by decide),bq h.queues (by decide),fun q hq=>⟨bq (h.qu q hq).1 (by decide),bq (h.qu q hq).2 (by decide)⟩⟩
 have e0:(i:Int).toNat=i:=di i
 simp only[e0,bB hi,aW,hp.1,hp.2,hs,hc,aK]
 cases qA (c.queues.getD i dQu).path with
 | false=>exact aF rfl
 | true =>
 simp only[j6,eY,cond_false]
 cases hi0:decide ((i:Int)>0) with
 | false =>
  simp only[l9,cond_false,eY,aW]
  cases decide ((c.queues.getD i dQu).user<1) with
  | true=>exact aF rfl
  | false =>
  cases decide ((c.queues.getD i dQu).user>1000000) with
  | true=>exact aF rfl
  | false =>
  cases ((c.queues.getD i dQu).caps.length:Int) != (c.labels.length:Int) with
  | true=>exact aF rfl
  | false =>
  simp only[eY,ou,cond_false]
  refine qIe (c.queues.getD i dQu).caps dCp (fun k=>(k,())) qT4 (fun b=>((bif b then 1 else 0:Int),())) (fun k hk=>?_) ?_
  ·simp only[sS,bB hk,aY hk,aD hk hcl]
   unfold qT4
   grind
  ·simp only[sS,bE]
 | true =>
  have hpos:0<i:=by simp at hi0;omega
  have e1:w64 ((i:Int)-1)=((i-1:Nat):Int):=by rw[dI]<;>omega
  have e2:((i-1:Nat):Int).toNat=i-1:=di _
  have e3:ixB ((i-1:Nat):Int) (c.queues.length:Int)=true:=bB (by omega)
  simp only[jl,jQ,aW,e1,e2,e3]
  cases Op.bytesLess (c.queues.getD i dQu).path (c.queues.getD (i-1) dQu).path||(c.queues.getD i dQu).path==(c.queues.getD (i-1) dQu).path with
  | true=>exact aF rfl
  | false =>
  simp only[eY,jQ,aW,cond_false]
  cases (dM c (eO (c.queues.getD i dQu).path)).2 with
  | false=>exact aF rfl
  | true =>
  simp only[j6,eY,cond_false]
  cases decide ((c.queues.getD i dQu).user<1) with
  | true=>exact aF rfl
  | false =>
  cases decide ((c.queues.getD i dQu).user>1000000) with
  | true=>exact aF rfl
  | false =>
  cases ((c.queues.getD i dQu).caps.length:Int) != (c.labels.length:Int) with
  | true=>exact aF rfl
  | false =>
  simp only[eY,ou,cond_false]
  refine qIe (c.queues.getD i dQu).caps dCp (fun k=>(k,())) qT4 (fun b=>((bif b then 1 else 0:Int),())) (fun k hk=>?_) ?_
  ·simp only[sS,bB hk,aY hk,aD hk hcl]
   unfold qT4
   grind
  ·simp only[sS,bE])
theorem qWw{c:Cf}{p k:B}(hall:∀q∈c.queues,q.caps.length=c.labels.length)(hk:k∈fG c p):(dM c k).2=true∧(dM c k).1.caps.length=c.labels.length:=by
 obtain⟨_,_,q,hq,e⟩:=rU hk
 unfold dM findD
 cases hf:c.queues.find? (fun q=>q.path==k) with
 | none=>have:= List.find?_eq_none.1 hf q hq;simp[e] at this
 | some r=>exact⟨rfl,hall r (ky hf)⟩
def zHg(c:Cf)(p:B)(k:Nat):Int:=(fG c p).foldl (fun n j=>w64 (n+((dM c j).1.caps.getD k dCp).least)) 0
def zNj(c:Cf)(p:B):Bool:=decide (((fG c p).length:Int)>0)&&(List.range' 0 (c.labels.length-0)).any fun k=>zHg c p k != 10000
def qOe(c:Cf):Bool:=!((List.range' 0 (c.queues.length-0)).any fun i=>zNj c (c.queues.getD i dQu).path)
theorem zKl{c:Cf}(h:CfN 1000000 c)(hall:∀q∈c.queues,q.caps.length=c.labels.length):qFH c=true∧qIK c=(qOe c,()):=zJH (by
 unfold qY3 qOe
 have hc:cfN 1000000000 c=true:=kU.2 ⟨bq h.labels (by decide),bq h.queues (by decide),fun q hq=>⟨bq (h.qu q hq).1 (by decide),bq (h.qu q hq).2 (by decide)⟩⟩
 have hn:c.queues.length≤1000000000:=bq h.queues (by decide)
 have hl:c.labels.length≤1000000000:=bq h.labels (by decide)
 have e:∀b:Bool,(!b,())=bif b then(false,()) else(true,()):=fun b=>by cases b<;>rfl
 rw[e]
 refine qC7 0 c.queues.length (fun i=>(i,())) (fun i=>zNj c (c.queues.getD i dQu).path) (false,()) _ (fun i _ hi=>?_) (fun i a b _=>?_)
 ·simp only[aY hi,bB hi,jQ,aW,hc,di,aK,aD hi hn]
  generalize (c.queues.getD i dQu).path=p
  have hkl:(fG c p).length≤1000000000:=bq (ll _ _) hn
  unfold zNj
  cases hk:decide (((fG c p).length:Int)>0) with
  | false =>
   simp only[l9,cond_false]
   have h0:(fG c p).length=0:=by simp at hk;simp[hk]
   have:= qC7 (ρ:=(Int×Unit) ⊕ (Bool×Unit)) 0 0 (fun k=>(k,())) (fun _=>false) (inr (false,())) (inl (((i+1:Nat):Int),())) (body:=fun s_1=>br (decide (s_1.1<(c.labels.length:Int))) (ret (inr (inl (((i+1:Nat):Int),())))) (ret (inr (inl (((i+1:Nat):Int),()))))) (fun _ _ h=>absurd h (qm _)) (fun k _ _ _=>by cases decide ((k:Int)<(c.labels.length:Int))<;>exact aF rfl)
   exact this
  | true =>
   simp only[jl,jQ]
   have e2:∀b:Bool,((bif b then inr (false,()) else inl (((i+1:Nat):Int),())):(Int×Unit) ⊕ (Bool×Unit))=bif b then inr (false,()) else inl (((i+1:Nat):Int),()):=fun _=>rfl
   refine qC7 0 c.labels.length (fun k=>(k,())) (fun k=>zHg c p k != 10000) (inr (false,())) (inl (((i+1:Nat):Int),())) (fun k _ hk2=>?_) (fun k a b _=>?_)
   ·simp only[aY hk2,jQ,di,aD hk2 hl]
    refine aN (zHg c p k,()) ?_ ?_
    ·unfold zHg
     refine jZ (fG c p) [] (fun j (n:Int)=>(n,j,())) (fun n j=>w64 (n+((dM c j).1.caps.getD k dCp).least)) (fun n=>inl (n,())) (fun _ _=>True) (fun j n hj _=>⟨trivial,?_⟩) (fun n _=>?_) (b0:=0) trivial
     ·have hf:=qWw hall (bL (d:=[]) hj)
      have ek:ixB (k:Int) ((dM c ((fG c p).getD j [])).1.caps.length:Int)=true:=by rw[hf.2];exact bB hk2
      simp only[sS,aY hj,bB hj,aD hj hkl,hc,ek]
     ·simp only[sS,bE]
    ·cases zHg c p k != 10000<;>exact aF rfl
   ·have hk3:=b (cz _)
    subst hk3
    exact aF (by simp only[sS,bE])
 ·have hi:=b (cz _)
  subst hi
  exact aF (by simp only[sS,bE]))
def qH0(x:Cp):Bool:=x.least==10000&&(x.most==10000&&true)
def qYY(c:Cf):Int:=bif (List.range' 0 (c.labels.length-0)).any (fun k=>!qH0 ((c.queues.getD 0 dQu).caps.getD k dCp)) then 13 else bif !qOe c then 13 else 0
def uG(c:Cf):Int :=
 bif sM c != 0 then sM c
 else bif (c.queues.length:Int)==0 then 12
 else bif !((c.queues.getD 0 dQu).path==dZ) then 12
 else((List.range' 0 (c.queues.length-0)).findSome? fun i=>bif qB c i != 0 then some (qB c i) else none).getD (qYY c)
theorem qC9{c:Cf}{i:Nat}(h:qB c i=0):qA (c.queues.getD i dQu).path=true∧(c.queues.getD i dQu).caps.length=c.labels.length∧(0<i→(dM c (eO (c.queues.getD i dQu).path)).2=true):=by
 unfold qB at h
 cases h1:qA (c.queues.getD i dQu).path with
 | false=>rw[h1] at h;simp at h
 | true =>
 rw[h1] at h
 simp only[j6,cond_false] at h
 cases h2:decide ((i:Int)>0)&&(Op.bytesLess (c.queues.getD i dQu).path (c.queues.getD (i-1) dQu).path||(c.queues.getD i dQu).path==(c.queues.getD (i-1) dQu).path) with
 | true=>rw[h2] at h;simp at h
 | false =>
 rw[h2] at h
 simp only[cond_false] at h
 cases h3:decide ((i:Int)>0)&&!(dM c (eO (c.queues.getD i dQu).path)).2 with
 | true=>rw[h3] at h;simp at h
 | false =>
 rw[h3] at h
 simp only[cond_false] at h
 cases h4:decide ((c.queues.getD i dQu).user<1)||decide ((c.queues.getD i dQu).user>1000000)||(((c.queues.getD i dQu).caps.length:Int) != (c.labels.length:Int)) with
 | true=>rw[h4] at h;simp at h
 | false =>
 refine⟨rfl,?_,fun hi=>?_⟩
 ·exact qWh (Bool.or_eq_false_iff.1 h4).2
 ·have: decide ((i:Int)>0)=true:=by simp;omega
  rw[this] at h3;simpa using h3
theorem qIn{α:Type}{l:List α}{d a:α}(h:a∈l):∃i,i<l.length∧l.getD i d=a:=by
 obtain⟨i,hi,e⟩:=qd h
 exact⟨i,hi,by simp[List.getD,hi,e]⟩
theorem zHh{c:Cf}(h:CfN 1000000 c):qD1 c=true∧qFS c=(uG c,()):=zGq (by
 unfold qSV uG
 have hL:=zCh c
 simp only[hL.1,hL.2,aW]
 cases sM c != 0 with
 | true=>exact aF rfl
 | false =>
 simp only[eY,cond_false]
 cases hz:((c.queues.length:Int)==0) with
 | true=>exact aF rfl
 | false =>
 have hpos:0<c.queues.length:=by simp at hz;exact oh.2 hz
 have e0:decide (0<(c.queues.length:Int))=true:=by simp;omega
 have hn:c.queues.length≤1000000000:=bq h.queues (by decide)
 have hl:c.labels.length≤1000000000:=bq h.labels (by decide)
 simp only[eY,cond_false,e0,fq,aW,qCx]
 cases (c.queues.getD 0 dQu).path==dZ with
 | false=>exact aF rfl
 | true =>
 simp only[j6,eY,cond_false]
 have e1:∀(l:List Nat) (p:Nat→Option Int) (z:Int),((l.findSome? p).getD z,())=(l.findSome? fun i=>(p i).map fun r=>(r,())).getD (z,()):=by
  intro l p z
  induction l with
  | nil=>rfl
  | cons a l ih =>
   rw[tq,tq]
   cases p a with
   | none=>exact ih
   | some r=>rfl
 rw[e1]
 refine qYW 0 c.queues.length (fun i=>(i,())) _ _ (fun i _ hi=>?_) (fun i a b hp=>?_)
 ·have hq:=zHf h hi
  refine aF ?_
  simp only[sS,aY hi,hq.1,hq.2,aD hi hn]
  cases qB c i != 0<;>rfl
 ·have hi:=b (cz _)
  subst hi
  have hq0:∀j,j<c.queues.length→qB c j=0:=fun j hj=>by
   have:= hp j (cz _) hj
   cases hx:qB c j != 0 with
   | true=>rw[hx] at this;cases this
   | false=>simpa using hx
  have hall:∀q∈c.queues,q.caps.length=c.labels.length:=fun q hq=>by
   obtain⟨j,hj,e⟩:=qIn (d:=dQu) hq
   rw[←e];exact(qC9 (hq0 j hj)).2.1
  have hS:=zKl h hall
  have hcap:=(qC9 (hq0 0 hpos)).2.1
  simp only[bE,eY]
  unfold qYY
  have e2:(inr ((bif (List.range' 0 (c.labels.length-0)).any (fun k=>!qH0 ((c.queues.getD 0 dQu).caps.getD k dCp)) then 13 else bif !qOe c then 13 else 0:Int),()):(Int×Unit) ⊕ (Int×Unit))=bif (List.range' 0 (c.labels.length-0)).any (fun k=>!qH0 ((c.queues.getD 0 dQu).caps.getD k dCp)) then inr (13,()) else inr ((bif !qOe c then 13 else 0:Int),()):=by
   cases (List.range' 0 (c.labels.length-0)).any (fun k=>!qH0 ((c.queues.getD 0 dQu).caps.getD k dCp))<;>rfl
  rw[e2]
  refine qC7 0 c.labels.length (fun k=>(k,())) (fun k=>!qH0 ((c.queues.getD 0 dQu).caps.getD k dCp)) (inr (13,())) _ (fun k _ hk=>?_) (fun k a b _=>?_)
  ·have ek:ixB (k:Int) ((c.queues.getD 0 dQu).caps.length:Int)=true:=by rw[hcap];exact bB hk
   refine aF ?_
   simp only[sS,aY hk,ek,aD hk hl,e0,qH0]
   cases ((c.queues.getD 0 dQu).caps.getD k dCp).least==10000<;>cases ((c.queues.getD 0 dQu).caps.getD k dCp).most==10000<;>rfl
  ·have hk:=b (cz _)
   subst hk
   refine aF ?_
   simp only[sS,bE,hS.1,hS.2]
   cases qOe c<;>rfl)
theorem qGr{c:Cf}(h:uG c=0):sM c=0∧0<c.queues.length∧(c.queues.getD 0 dQu).path=dZ∧∀i,i<c.queues.length→qB c i=0:=by
 unfold uG at h
 cases h1:sM c != 0 with
 | true=>rw[h1] at h;simp at h h1;exact absurd h h1
 | false =>
 rw[h1] at h
 simp only[cond_false] at h
 cases h2:(c.queues.length:Int)==0 with
 | true=>rw[h2] at h;simp at h
 | false =>
 rw[h2] at h
 simp only[cond_false] at h
 cases h3:(c.queues.getD 0 dQu).path==dZ with
 | false=>rw[h3] at h;simp at h
 | true =>
 rw[h3] at h
 simp only[j6,cond_false] at h
 refine⟨by simpa using h1,by simp at h2;exact oh.2 h2,by simpa using h3,fun i hi=>?_⟩
 have:= qWt (lo:=0) (k:=c.queues.length) (p:=fun i=>bif qB c i != 0 then some (qB c i) else none) (fin:=qYY c) (ok:=fun r=>r=0) (fun i r _ _ e=>by
  cases hx:qB c i != 0 with
  | false=>simp only[hx,cond_false] at e;cases e
  | true=>simp only[hx,cond_true,bz] at e;rw[←e];simpa using hx) h i (cz _) (by omega)
 cases hx:qB c i != 0 with
 | false=>simpa using hx
 | true=>simp only[hx,cond_true] at this;cases this
theorem qOf{s:B}:∀(l:List Nat) (v w:Nat×Nat),goE (oF s) l v=.inl w→w.2=v.2+(l.filter (wY s)).length
 | [],v,w,h=>by unfold goE at h;cases h;rfl
 | i::l,v,w,h=>by
  unfold goE at h
  cases hf:oF s v i with
  | inr r=>rw[hf] at h;cases h
  | inl u =>
   rw[hf] at h
   have ih:=qOf l u w h
   rcases qWu hf with⟨e1,e2⟩ | ⟨e1,e2⟩
   ·rw[ih,e1,jq,e2];simp
   ·rw[ih,e1,jq,e2];simp;omega
def dots(s:B):Nat:=((List.range s.length).filter fun i=>qBs (s.getD i 0)).length
theorem qWx(s:B):((List.range (s.length+1)).filter (wY s)).length=dots s+1:=by
 rw[List.range_succ,ql,dh]
 have e1:([s.length].filter (wY s)).length=1:=by
  have: wY s s.length=true:=by unfold wY;simp
  rw[jq,this];rfl
 rw[e1]
 unfold dots
 have: (List.range s.length).filter (wY s)=(List.range s.length).filter fun i=>qBs (s.getD i 0):=by
  refine List.filter_congr fun i hi=>?_
  have hi:i<s.length:=by simpa using hi
  unfold wY qBs
  have e:decide (i<s.length)=true:=by simp[hi]
  rw[e,jl]
 rw[this]
theorem qPP{s:B}(h:qA s=true):dots s≤3:=by
 unfold qA at h
 cases hg:goE (oF s) (List.range (s.length+1)) (0,0) with
 | inr b =>
  have hb:=pX (f:=oF s) (fun _=>True) (fun b=>b=false) (List.range (s.length+1)) (fun v i _ _=>by
   unfold oF
   cases !wY s i with
   | true=>trivial
   | false =>
    cases !qC8 (aO v.1 i s)||(Nat.beq v.2 0&&!(aO v.1 i s==dZ)) with
    | true=>exact rfl
    | false=>trivial) (b:=(0,0)) trivial
  rw[hg] at hb h
  have hb:b=false:=hb
  rw[hb] at h;cases h
 | inl v =>
  rw[hg] at h
  have hc:=qOf _ _ _ hg
  rw[qWx] at hc
  have hv:decide ((v.2:Int)≤4)=true:=h
  simp at hv
  omega
theorem qEG(p:B):∀n,0≤dY p n→qBs (p.getD (dY p n).toNat 0)=true∧(dY p n).toNat<n
 | 0,h=>by simp[dY] at h
 | n+1,h=>by
  unfold dY at h ⊢
  cases hd:qBs (p.getD n 0) with
  | true=>simp only[cond_true,di];exact⟨hd,jy _⟩
  | false =>
   rw[hd] at h
   simp only[cond_false] at h ⊢
   exact⟨(qEG p n h).1,Nat.lt_succ_of_lt (qEG p n h).2⟩
theorem qWy{p:B}(h:eO p≠[]):dots (eO p)+1≤dots p:=by
 unfold eO at h ⊢
 cases hc:decide (dY p p.length<0) with
 | true=>rw[hc] at h;exact absurd rfl h
 | false =>
  simp only[cond_false]
  have h0:0≤dY p p.length:=by simp at hc;omega
  obtain⟨h1,h2⟩:=qEG p p.length h0
  generalize (dY p p.length).toNat=d at h1 h2 ⊢
  unfold dots
  have el:(p.take d).length=d:=by rw[ed];omega
  rw[el]
  have e1:(List.range d).filter (fun i=>qBs ((p.take d).getD i 0))=(List.range d).filter fun i=>qBs (p.getD i 0):=by
   refine List.filter_congr fun i hi=>?_
   have hi:i<d:=by simpa using hi
   have: (p.take d).getD i 0=p.getD i 0:=by simp[List.getD,j5,hi]
   rw[this]
  rw[e1]
  have e2:List.range p.length=List.range d++(d::List.range' (d+1) (p.length-(d+1))):=by
   rw[rf,rf,←sj]
   have: p.length=d+(p.length-(d+1)+1):=by omega
   conv=>lhs;rw[this]
   rw[←List.range'_append_1,dm]
  rw[e2,ql,dh,jq,h1]
  simp
theorem qLs{c:Cf}{p:B}{q:Qu}(hq:q∈c.queues)(e:q.path=p):(dM c p).2=true:=by
 unfold dM findD
 cases hf:c.queues.find? (fun q=>q.path==p) with
 | none=>have:= List.find?_eq_none.1 hf q hq;simp[e] at this
 | some r=>rfl
theorem qEH{c:Cf}{p:B}(h:(dM c p).2=true):(dM c p).1∈c.queues∧(dM c p).1.path=p:=by
 unfold dM findD at h ⊢
 cases hf:c.queues.find? (fun q=>q.path==p) with
 | none=>rw[hf] at h;cases h
 | some q=>exact⟨ky hf,by simpa using uf hf⟩
theorem qYZ{c:Cf}(hp:∀q∈c.queues,qA q.path=true):∀(n:Nat) (p:B),4≤dots p+n→0<n→Deep c n p
 | 0,p,_,h=>absurd h (Nat.lt_irrefl 0)
 | n+1,p,h,_=>by
  intro k hk
  obtain⟨h1,h2,q,hq,e⟩:=rU hk
  have h3:=qPP (hp q hq)
  rw[e] at h3
  have h4:=qWy (p:=k) (by rw[h1];exact h2)
  rw[h1] at h4
  exact qYZ hp n k (by omega) (by omega)
theorem qOg{c:Cf}(hu:∀q∈c.queues,eO q.path≠[]→(dM c (eO q.path)).2=true):∀(n:Nat) (p:B),(dM c p).2=true→∀x∈upN n p,(dM c x).2=true
 | 0,p,h,x,hx=>by cases hx
 | n+1,p,h,x,hx=>by
  unfold upN at hx
  cases hp:p==[] with
  | true=>rw[hp] at hx;cases hx
  | false =>
   rw[hp] at hx
   rcases fo.1 hx with e | e
   ·rw[e];exact h
   ·by_cases ha:eO p=[]
    ·rw[ha] at e;cases n<;>cases e
    ·have hm:=qEH h
     have:= hu _ hm.1 (by rw[hm.2];exact ha)
     rw[hm.2] at this
     exact qOg hu n _ this x e
theorem qWz:eO dZ=[]:=by decide
theorem qCA{c:Cf}(h:uG c=0):yT c∧c.labels.length≤3∧∀q∈c.queues,q.caps.length=c.labels.length:=by
 obtain⟨h1,h2,h3,h4⟩:=qGr h
 have hL:c.labels.length≤3∧c.queues.length≤16:=by
  unfold sM at h1
  cases hx:decide ((c.labels.length:Int)<1)||decide ((c.labels.length:Int)>3)||decide ((c.queues.length:Int)>16) with
  | true=>rw[hx] at h1;simp at h1
  | false=>simp at hx;omega
 have hall:∀q∈c.queues,qA q.path=true∧q.caps.length=c.labels.length∧(eO q.path≠[]→(dM c (eO q.path)).2=true):=fun q hq=>by
  obtain⟨j,hj,e⟩:=qIn (d:=dQu) hq
  have:= qC9 (h4 j hj)
  rw[e] at this
  refine⟨this.1,this.2.1,fun ha=>?_⟩
  rcases l5 j with e0 | e0
  ·subst e0
   rw[←e,h3,qWz] at ha
   exact absurd rfl ha
  ·exact this.2.2 e0
 refine⟨⟨fun path hf p hp=>?_,qYZ (fun q hq=>(hall q hq).1) 6 dZ (by omega) (by decide),hL.2⟩,hL.1,fun q hq=>(hall q hq).2.1⟩
 have hfound:=qOg (fun q hq ha=>(hall q hq).2.2 ha) path.length path hf p (rq (by rw[List.dropLast_eq_take] at hp;exact hp))
 have hm:=qEH hfound
 exact pg (hall _ hm.1).2.1.symm
end Go.Proofs.YtlmkakccmpncjaaGreatDoor
