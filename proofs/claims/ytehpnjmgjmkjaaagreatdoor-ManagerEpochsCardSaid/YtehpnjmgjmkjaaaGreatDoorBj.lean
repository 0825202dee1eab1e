/- Part of the proof. No conditions. -/
import Derived.Test.YtehpnjmgjmkjaaaGreatDoorBi
namespace Go.Proofs.YtehpnjmgjmkjaaaGreatDoor
open Go Go.W Go.Proofs
open Go.W.DT (ret need br bad loop join)
set_option maxRecDepth 100000
theorem qY4{σ ρ:Type}(lo n:Nat)(enc:Int→σ){body:σ→DT (σ ⊕ ρ)}(p:Nat→Option ρ)(fin:ρ)
  (h1:∀i:Nat,lo≤i→i<n→(body (enc (i:Int))).G (match p i with | some r=>.inr r | none=>.inl (enc ((i+1:Nat):Int))))
  (h3:∀i:Nat,n≤i→(lo≤n→i=n)→(∀j,lo≤j→j<n→p j=none)→(body (enc (i:Int))).G (.inr fin)):(DT.loop (enc (lo:Int)) body).G (((List.range' lo (n-lo)).findSome? p).getD fin):=by
 have key:∀(m i:Nat),n-i<m→lo≤i→(lo≤n→i≤n)→(∀j,lo≤j→j<i→p j=none)→DT.qAw (fun s y=>(body s).G y) m (enc (i:Int)) (((List.range' i (n-i)).findSome? p).getD fin):=by
  intro m
  induction m with
  | zero=>intro i h;omega
  | succ m ih =>
   intro i hm hlo hle hj
   rcases Nat.lt_or_ge i n with hlt | hge
   ·have e:List.range' i (n-i)=i::List.range' (i+1) (n-(i+1)):=by
     have: n-i=(n-(i+1))+1:=by omega
     rw[this,List.range'_succ]
    have hb:=h1 i hlo hlt
    rw[e,List.findSome?_cons]
    cases hp:p i with
    | some r=>rw[hp] at hb;exact⟨.inr r,hb,rfl⟩
    | none =>
     rw[hp] at hb
     refine⟨.inl _,hb,ih (i+1) (by omega) (by omega) (fun _=>hlt) fun j h1 h2=>?_⟩
     rcases Nat.lt_or_ge j i with h | h
     ·exact hj j h1 h
     ·have: j=i:=by omega
      subst this;exact hp
   ·have e:n-i=0:=by omega
    rw[e]
    exact⟨.inr fin,h3 i hge (fun h=>by have:= hle h;omega) (fun j h1 h2=>hj j h1 (by omega)),rfl⟩
 exact DT.qN.2 ⟨_,key _ lo (Nat.lt_succ_self _) (Nat.le_refl _) (fun h=>h) (fun j h1 h2=>by omega)⟩
theorem zAQ{ρ:Type}(q:Nat→Bool)(r fin:ρ)(l:List Nat):(l.findSome? fun i=>bif q i then some r else none).getD fin=bif l.any q then r else fin:=by
 induction l with
 | nil=>rfl
 | cons a l ih =>
  rw[List.findSome?_cons,List.any_cons]
  cases q a with
  | true=>rfl
  | false=>exact ih
theorem qCt{σ ρ:Type}(lo n:Nat)(enc:Int→σ){body:σ→DT (σ ⊕ ρ)}(q:Nat→Bool)(out fin:ρ)
  (h1:∀i:Nat,lo≤i→i<n→(body (enc (i:Int))).G (bif q i then .inr out else .inl (enc ((i+1:Nat):Int))))
  (h3:∀i:Nat,n≤i→(lo≤n→i=n)→(∀j,lo≤j→j<n→q j=false)→(body (enc (i:Int))).G (.inr fin)):(DT.loop (enc (lo:Int)) body).G (bif (List.range' lo (n-lo)).any q then out else fin):=by
 rw[←zAQ]
 refine qY4 lo n enc (fun i=>bif q i then some out else none) fin (fun i a b=>?_) (fun i a b c=>h3 i a b fun j d e=>?_)
 ·have:= h1 i a b
  revert this
  cases q i<;>exact fun h=>h
 ·have:= c j d e
  revert this
  cases q j<;>simp
theorem qWj{ρ:Type}{p:Nat→Option ρ}{lo k:Nat}{fin:ρ}{ok:ρ→Prop}(hf:∀i r,lo≤i→i<lo+k→p i=some r→¬ok r)(h:ok (((List.range' lo k).findSome? p).getD fin)):∀i,lo≤i→i<lo+k→p i=none:=by
 intro i h1 h2
 cases hp:p i with
 | none=>rfl
 | some r =>
  cases hs:(List.range' lo k).findSome? p with
  | none =>
   have:= List.findSome?_eq_none_iff.1 hs i (List.mem_range'_1.2 ⟨h1,h2⟩)
   rw[hp] at this;cases this
  | some v =>
   rw[hs] at h
   obtain⟨j,hj,e⟩:=List.exists_of_findSome?_eq_some hs
   have hj:=List.mem_range'_1.1 hj
   exact absurd h (hf j v hj.1 hj.2 e)
def zKk(c:UInt8):Bool:=(decide ((c.toNat:Int)<97)||decide ((c.toNat:Int)>122))&&(decide ((c.toNat:Int)<48)||decide ((c.toNat:Int)>57))&&((c.toNat:Int) != 45)
def qCu(s:B):Bool:=!(decide ((s.length:Int)<1)||decide ((s.length:Int)>12)||s.any zKk)
theorem qY5(s:B):zO s=true∧qCX s=(qCu s,()):=zHp (by
 unfold qYb qCu
 cases decide ((s.length:Int)<1) with
 | true=>exact aF rfl
 | false =>
 cases hl:decide ((s.length:Int)>12) with
 | true=>exact aF rfl
 | false =>
 simp only[fI,Bool.false_or]
 have hn:s.length≤1000000000:=by simp at hl;omega
 refine qHP s (OfNat.ofNat 0:UInt8) (fun i=>(i,())) zKk (fun b=>(!b,())) (fun i hi=>?_) ?_
 ·have e1:decide (0≤(i:Int))=true:=by simp
  simp only[sS,e1,bF hi,aG hi hn]
  unfold zKk
  grind
 ·simp only[sS,bM])
def wG(s:B)(i:Nat):Bool:=!(decide (i<s.length)&&((s.getD i (OfNat.ofNat 0)).toNat:Int) != 46)
def oJ(s:B)(v:Nat×Nat)(i:Nat):(Nat×Nat) ⊕ Bool :=
 bif !wG s i then .inl v else bif !qCu (aH v.1 i s)||(Nat.beq v.2 0&&!(aH v.1 i s==fG)) then .inr false else .inl (i+1,v.2+1)
def qA(s:B):Bool:=Sum.elim (fun v=>decide ((v.2:Int)≤4)) id (goE (oJ s) (List.range (s.length+1)) (0,0))
theorem qWk{s:B}{v w:Nat×Nat}{i:Nat}(h:oJ s v i=.inl w):w=v∧wG s i=false∨w=(i+1,v.2+1)∧wG s i=true:=by
 unfold oJ at h
 cases hs:wG s i with
 | false=>rw[hs] at h;exact .inl ⟨by simpa using h.symm,rfl⟩
 | true =>
  rw[hs] at h
  cases hx : !qCu (aH v.1 i s)||(Nat.beq v.2 0&&!(aH v.1 i s==fG)) with
  | true=>rw[hx] at h;cases h
  | false=>rw[hx] at h;exact .inr ⟨by simpa using h.symm,rfl⟩
theorem zFu{α β γ σ ρ:Type}(l:List α)(d:α)(enc:Int→β→σ){body:σ→DT (σ ⊕ ρ)}(f:β→α→β ⊕ γ)(fin:β→ρ)(out:γ→ρ)(I:Nat→β→Prop)
  (hstep:∀(i:Nat) (b:β),i<l.length→I i b→Sum.elim (fun b'=>I (i+1) b'∧(body (enc (i:Int) b)).G (.inl (enc ((i+1:Nat):Int) b'))) (fun r=>(body (enc (i:Int) b)).G (.inr (out r))) (f b (l.getD i d)))
  (hend:∀b,I l.length b→(body (enc (l.length:Int) b)).G (.inr (fin b))) {b0:β} (h0:I 0 b0):(loop (enc 0 b0) body).G (Sum.elim fin out (goE f l b0)):=by
 refine jU l d enc (fun b a=>match f b a with | .inl b'=>.inl b' | .inr r=>.inr (out r)) fin I (fun i b hi hI=>?_) (fun b hb=>hend b hb) h0 (qLC f fin out l b0)
 have h1:=hstep i b hi hI
 cases hf:f b (l.getD i d) with
 | inl b'=>rw[hf] at h1;exact h1
 | inr r=>rw[hf] at h1;exact h1
theorem qWl{n i:Nat}(h:i<n):(List.range n).getD i 0=i:=by simp[List.getD,h]
theorem zAR{s:B}(hn:s.length≤1000000):qAI s=true∧qDb s=(qA s,()):=zAy (by
 unfold qOb
 have e:(qA s,())=Sum.elim (fun v:Nat×Nat=>(decide ((v.2:Int)≤4),())) (fun b=>(b,())) (goE (oJ s) (List.range (s.length+1)) (0,0)):=by
  unfold qA
  cases goE (oJ s) (List.range (s.length+1)) (0,0)<;>rfl
 rw[e]
 refine zFu (List.range (s.length+1)) 0 (fun i (v:Nat×Nat)=>((v.1:Int),(v.2:Int),i,())) (oJ s) (fun v=>(decide ((v.2:Int)≤4),())) (fun b=>(b,())) (fun i v=>v.1≤i∧v.2≤i) (fun i v hi hv=>?_) (fun v hv=>?_) (b0:=(0,0)) ⟨Nat.le_refl 0,Nat.le_refl 0⟩
 ·have hv:v.1≤i∧v.2≤i:=hv
  rw[List.length_range] at hi
  rw[qWl hi]
  have e1:decide ((i:Int)≤(s.length:Int))=true:=by simp;omega
  have e2:decide (0≤(i:Int))=true:=by simp
  have e3:w64 ((i:Int)+1)=((i+1:Nat):Int):=by rw[fE]<;>omega
  have e4:w64 ((v.2:Int)+1)=((v.2+1:Nat):Int):=by rw[fE]<;>omega
  have e5:inB (v.1:Int) (i:Int) (s.length:Int)=true:=qCL.2 ⟨by omega,by omega,by omega⟩
  have e6:decide ((i:Int)<(s.length:Int))=decide (i<s.length):=by simp
  have e7:((v.2:Int)==0)=Nat.beq v.2 0:=by cases v.2<;>rfl
  have hq:=qY5 (aH v.1 i s)
  simp only[Int.toNat_natCast,e1,e2,e3,e4,e5,e6,e7,hq.1,hq.2,jP]
  cases hs:wG s i with
  | false =>
   have ef:oJ s v i=.inl v:=by unfold oJ;rw[hs];rfl
   rw[ef]
   refine⟨⟨by omega,by omega⟩,?_⟩
   unfold wG at hs
   simp only[Bool.not_eq_false',Bool.and_eq_true] at hs
   simp only[hs.1,hs.2,sZ]
   exact aF (by simp only[sS])
  | true =>
   have ef:oJ s v i=bif !qCu (aH v.1 i s)||(Nat.beq v.2 0&&!(aH v.1 i s==fG)) then .inr false else .inl (i+1,v.2+1):=by unfold oJ;rw[hs];rfl
   rw[ef]
   have er:([OfNat.ofNat 114,OfNat.ofNat 111,OfNat.ofNat 111,OfNat.ofNat 116]:B)=fG:=rfl
   rw[er]
   unfold wG at hs
   cases h1:decide (i<s.length) with
   | false =>
    simp only[tC]
    cases qCu (aH v.1 i s) with
    | false=>exact aF (by simp only[sS])
    | true =>
     cases Nat.beq v.2 0 with
     | false=>exact⟨⟨by simp,by simp;omega⟩,aF (by simp only[sS])⟩
     | true =>
      cases aH v.1 i s==fG with
      | false=>exact aF (by simp only[sS])
      | true=>exact⟨⟨by simp,by simp;omega⟩,aF (by simp only[sS])⟩
   | true =>
    have h2:(((s.getD i (OfNat.ofNat 0)).toNat:Int) != 46)=false:=by
     rw[h1] at hs;simpa using hs
    simp only[sZ,h2]
    cases qCu (aH v.1 i s) with
    | false=>exact aF (by simp only[sS])
    | true =>
     cases Nat.beq v.2 0 with
     | false=>exact⟨⟨by simp,by simp;omega⟩,aF (by simp only[sS])⟩
     | true =>
      cases aH v.1 i s==fG with
      | false=>exact aF (by simp only[sS])
      | true=>exact⟨⟨by simp,by simp;omega⟩,aF (by simp only[sS])⟩
 ·have e1:decide (((List.range (s.length+1)).length:Int)≤(s.length:Int))=false:=by simp;omega
  exact aF (by simp only[sS,e1]))
def rU(c:Cf):Int :=
 bif decide ((c.labels.length:Int)<1)||decide ((c.labels.length:Int)>3)||decide ((c.queues.length:Int)>16) then 4
 else bif !(c.labels.getD 0 []==[]) then 12
 else bif (List.range' 1 (c.labels.length-1)).any (fun i=>!qCu (c.labels.getD i [])) then 12
 else bif (List.range' 1 (c.labels.length-1)).any (fun i=>(List.range' 1 (i-1)).any fun k=>c.labels.getD i []==c.labels.getD k []) then 7 else 0
theorem zFv{α β:Type}{b:Bool}{x y:α}{u:β}:((bif b then x else y),u)=bif b then(x,u) else(y,u):=by cases b<;>rfl
theorem zAS(c:Cf):vZ c=true∧zS c=(rU c,()):=zAz (by
 unfold qOc rU
 cases h1:decide ((c.labels.length:Int)<1) with
 | true=>exact aF rfl
 | false =>
 cases h2:decide ((c.labels.length:Int)>3) with
 | true=>exact aF rfl
 | false =>
 cases h3:decide ((c.queues.length:Int)>16) with
 | true=>exact aF rfl
 | false =>
 have hn:c.labels.length≤3:=by simp at h2;omega
 have hp:1≤c.labels.length:=by simp at h1;omega
 have e0:decide (0<(c.labels.length:Int))=true:=by simp;omega
 simp only[e0,fI,bH,Bool.or_false,cond_false,Bool.and_true]
 cases c.labels.getD 0 []==[] with
 | false=>exact aF rfl
 | true =>
 simp only[Bool.not_true,fI,cond_false]
 simp only[zFv]
 refine qCt 1 c.labels.length (fun i=>(i,())) (fun i=>!qCu (c.labels.getD i [])) (12,()) _ (fun i a b=>?_) (fun i a b _=>?_)
 ·have hq:=qY5 (c.labels.getD i [])
  refine aF ?_
  simp only[sS,bF b,bG b,aG b (show c.labels.length≤1000000000 by omega),hq.1,hq.2]
  cases qCu (c.labels.getD i [])<;>rfl
 ·have hi:=b hp
  subst hi
  simp only[bM,fI]
  have e:(Sum.inr (bif (List.range' 1 (c.labels.length-1)).any (fun i=>(List.range' 1 (i-1)).any fun k=>c.labels.getD i []==c.labels.getD k []) then(7,()) else(0,())):(Int×Unit) ⊕ (Int×Unit))=bif (List.range' 1 (c.labels.length-1)).any (fun i=>(List.range' 1 (i-1)).any fun k=>c.labels.getD i []==c.labels.getD k []) then Sum.inr (7,()) else Sum.inr (0,()):=by
   cases (List.range' 1 (c.labels.length-1)).any (fun i=>(List.range' 1 (i-1)).any fun k=>c.labels.getD i []==c.labels.getD k [])<;>rfl
  rw[e]
  refine qCt 1 c.labels.length (fun i=>(i,())) (fun i=>(List.range' 1 (i-1)).any fun k=>c.labels.getD i []==c.labels.getD k []) (Sum.inr (7,())) _ (fun i a b=>?_) (fun i a b _=>?_)
  ·simp only[bF b,jP]
   have e:∀q:Bool,(bif q then Sum.inr (Sum.inr (7,())) else Sum.inl (((i+1:Nat):Int),()):(Int×Unit) ⊕ ((Int×Unit) ⊕ (Int×Unit)))=bif q then Sum.inr (Sum.inr (7,())) else Sum.inl (((i+1:Nat):Int),()):=fun q=>rfl
   refine qCt 1 i (fun k=>(k,())) (fun k=>c.labels.getD i []==c.labels.getD k []) (Sum.inr (Sum.inr (7,()))) (Sum.inl (((i+1:Nat):Int),())) (fun k a2 b2=>?_) (fun k a2 b2 _=>?_)
   ·refine aF ?_
    simp only[sS,bF b2,bG b,bG (Nat.lt_trans b2 b),aG b2 (show i≤1000000000 by omega)]
    cases c.labels.getD i []==c.labels.getD k []<;>rfl
   ·have hk:=b2 a
    subst hk
    exact aF (by simp only[sS,bM,aG b (show c.labels.length≤1000000000 by omega)])
  ·have hi:=b hp
   subst hi
   exact aF (by simp only[sS,bM]))
def qTN(x:Cp):Bool:=decide (x.least<0)||decide (x.least>10000)||decide (x.most<0)||decide (x.most>10000)||decide (x.least>x.most)
def qB(c:Cf)(i:Nat):Int :=
 bif !qA (c.queues.getD i dQu).path then 12
 else bif decide ((i:Int)>0)&&(Op.bytesLess (c.queues.getD i dQu).path (c.queues.getD (i-1) dQu).path||(c.queues.getD i dQu).path==(c.queues.getD (i-1) dQu).path) then 7
 else bif decide ((i:Int)>0)&&!(dO c (eZ (c.queues.getD i dQu).path)).2 then 12
 else bif decide ((c.queues.getD i dQu).user<1)||decide ((c.queues.getD i dQu).user>1000000)||(((c.queues.getD i dQu).caps.length:Int) != (c.labels.length:Int)) then 1
 else bif (c.queues.getD i dQu).caps.any qTN then 1 else 0
theorem zFw{c:Cf}{i:Nat}(h:CfN 1000000 c)(hi:i<c.queues.length):zU c (i:Int)=true∧qBP c (i:Int)=(qB c i,()):=zE4 (by
 unfold qTo qB
 have hm:=h.qu _ (bT (d:=dQu) hi)
 have hp:=zAR hm.2
 have hn:=h.queues
 have hcl:(c.queues.getD i dQu).caps.length≤1000000000:=Nat.le_trans hm.1 (by decide)
 have hs:sm (c.queues.getD i dQu).path.length=true:=eX.2 (Nat.le_trans hm.2 (by decide))
 have hc:cfN 1000000000 c=true:=kW.2 ⟨Nat.le_trans h.labels (by decide),Nat.le_trans h.queues (by decide),fun q hq=>⟨Nat.le_trans (h.qu q hq).1 (by decide),Nat.le_trans (h.qu q hq).2 (by decide)⟩⟩
 have e0:(i:Int).toNat=i:=Int.toNat_natCast i
 simp only[e0,bG hi,bH,hp.1,hp.2,hs,hc,aN]
 cases qA (c.queues.getD i dQu).path with
 | false=>exact aF rfl
 | true =>
 simp only[Bool.not_true,fI,cond_false]
 cases hi0:decide ((i:Int)>0) with
 | false =>
  simp only[Bool.false_and,cond_false,fI,bH]
  cases decide ((c.queues.getD i dQu).user<1) with
  | true=>exact aF rfl
  | false =>
  cases decide ((c.queues.getD i dQu).user>1000000) with
  | true=>exact aF rfl
  | false =>
  cases ((c.queues.getD i dQu).caps.length:Int) != (c.labels.length:Int) with
  | true=>exact aF rfl
  | false =>
  simp only[fI,Bool.false_or,cond_false]
  refine qHP (c.queues.getD i dQu).caps dCp (fun k=>(k,())) qTN (fun b=>((bif b then 1 else 0:Int),())) (fun k hk=>?_) ?_
  ·simp only[sS,bG hk,bF hk,aG hk hcl]
   unfold qTN
   grind
  ·simp only[sS,bM]
 | true =>
  have hpos:0<i:=by simp at hi0;omega
  have e1:w64 ((i:Int)-1)=((i-1:Nat):Int):=by rw[fE]<;>omega
  have e2:((i-1:Nat):Int).toNat=i-1:=Int.toNat_natCast _
  have e3:ixB ((i-1:Nat):Int) (c.queues.length:Int)=true:=bG (by omega)
  simp only[Bool.true_and,jP,bH,e1,e2,e3]
  cases Op.bytesLess (c.queues.getD i dQu).path (c.queues.getD (i-1) dQu).path||(c.queues.getD i dQu).path==(c.queues.getD (i-1) dQu).path with
  | true=>exact aF rfl
  | false =>
  simp only[fI,jP,bH,cond_false]
  cases (dO c (eZ (c.queues.getD i dQu).path)).2 with
  | false=>exact aF rfl
  | true =>
  simp only[Bool.not_true,fI,cond_false]
  cases decide ((c.queues.getD i dQu).user<1) with
  | true=>exact aF rfl
  | false =>
  cases decide ((c.queues.getD i dQu).user>1000000) with
  | true=>exact aF rfl
  | false =>
  cases ((c.queues.getD i dQu).caps.length:Int) != (c.labels.length:Int) with
  | true=>exact aF rfl
  | false =>
  simp only[fI,Bool.false_or,cond_false]
  refine qHP (c.queues.getD i dQu).caps dCp (fun k=>(k,())) qTN (fun b=>((bif b then 1 else 0:Int),())) (fun k hk=>?_) ?_
  ·simp only[sS,bG hk,bF hk,aG hk hcl]
   unfold qTN
   grind
  ·simp only[sS,bM])
theorem qWm{c:Cf}{p k:B}(hall:∀q∈c.queues,q.caps.length=c.labels.length)(hk:k∈bO c p):(dO c k).2=true∧(dO c k).1.caps.length=c.labels.length:=by
 obtain⟨_,_,q,hq,e⟩:=rE hk
 unfold dO findD
 cases hf:c.queues.find? (fun q=>q.path==k) with
 | none=>have:= List.find?_eq_none.1 hf q hq;simp[e] at this
 | some r=>exact⟨rfl,hall r (List.mem_of_find?_eq_some hf)⟩
def zFx(c:Cf)(p:B)(k:Nat):Int:=(bO c p).foldl (fun n j=>w64 (n+((dO c j).1.caps.getD k dCp).least)) 0
def zKl(c:Cf)(p:B):Bool:=decide (((bO c p).length:Int)>0)&&(List.range' 0 (c.labels.length-0)).any fun k=>zFx c p k != 10000
def qOA(c:Cf):Bool:=!((List.range' 0 (c.queues.length-0)).any fun i=>zKl c (c.queues.getD i dQu).path)
theorem zHK{c:Cf}(h:CfN 1000000 c)(hall:∀q∈c.queues,q.caps.length=c.labels.length):qFt c=true∧qI8 c=(qOA c,()):=zHq (by
 unfold qYc qOA
 have hc:cfN 1000000000 c=true:=kW.2 ⟨Nat.le_trans h.labels (by decide),Nat.le_trans h.queues (by decide),fun q hq=>⟨Nat.le_trans (h.qu q hq).1 (by decide),Nat.le_trans (h.qu q hq).2 (by decide)⟩⟩
 have hn:c.queues.length≤1000000000:=Nat.le_trans h.queues (by decide)
 have hl:c.labels.length≤1000000000:=Nat.le_trans h.labels (by decide)
 have e:∀b:Bool,(!b,())=bif b then(false,()) else(true,()):=fun b=>by cases b<;>rfl
 rw[e]
 refine qCt 0 c.queues.length (fun i=>(i,())) (fun i=>zKl c (c.queues.getD i dQu).path) (false,()) _ (fun i _ hi=>?_) (fun i a b _=>?_)
 ·simp only[bF hi,bG hi,jP,bH,hc,Int.toNat_natCast,aN,aG hi hn]
  generalize (c.queues.getD i dQu).path=p
  have hkl:(bO c p).length≤1000000000:=Nat.le_trans (List.length_filterMap_le _ _) hn
  unfold zKl
  cases hk:decide (((bO c p).length:Int)>0) with
  | false =>
   simp only[Bool.false_and,cond_false]
   have h0:(bO c p).length=0:=by simp at hk;simp[hk]
   have:= qCt (ρ:=(Int×Unit) ⊕ (Bool×Unit)) 0 0 (fun k=>(k,())) (fun _=>false) (Sum.inr (false,())) (Sum.inl (((i+1:Nat):Int),())) (body:=fun s_1=>br (decide (s_1.1<(c.labels.length:Int))) (ret (Sum.inr (Sum.inl (((i+1:Nat):Int),())))) (ret (Sum.inr (Sum.inl (((i+1:Nat):Int),()))))) (fun _ _ h=>absurd h (Nat.not_lt_zero _)) (fun k _ _ _=>by cases decide ((k:Int)<(c.labels.length:Int))<;>exact aF rfl)
   exact this
  | true =>
   simp only[Bool.true_and]
   have e2:∀b:Bool,((bif b then Sum.inr (false,()) else Sum.inl (((i+1:Nat):Int),())):(Int×Unit) ⊕ (Bool×Unit))=bif b then Sum.inr (false,()) else Sum.inl (((i+1:Nat):Int),()):=fun _=>rfl
   refine qCt 0 c.labels.length (fun k=>(k,())) (fun k=>zFx c p k != 10000) (Sum.inr (false,())) (Sum.inl (((i+1:Nat):Int),())) (fun k _ hk2=>?_) (fun k a b _=>?_)
   ·simp only[bF hk2,jP,Int.toNat_natCast,aG hk2 hl]
    refine aT (zFx c p k,()) ?_ ?_
    ·unfold zFx
     refine kF (bO c p) [] (fun j (n:Int)=>(n,j,())) (fun n j=>w64 (n+((dO c j).1.caps.getD k dCp).least)) (fun n=>Sum.inl (n,())) (fun _ _=>True) (fun j n hj _=>⟨trivial,?_⟩) (fun n _=>?_) (b0:=0) trivial
     ·have hf:=qWm hall (bT (d:=[]) hj)
      have ek:ixB (k:Int) ((dO c ((bO c p).getD j [])).1.caps.length:Int)=true:=by rw[hf.2];exact bG hk2
      simp only[sS,bF hj,bG hj,aG hj hkl,ek]
     ·simp only[sS,bM]
    ·cases zFx c p k != 10000<;>exact aF rfl
   ·have hk3:=b (Nat.zero_le _)
    subst hk3
    exact aF (by simp only[sS,bM])
 ·have hi:=b (Nat.zero_le _)
  subst hi
  exact aF (by simp only[sS,bM]))
def qGZ(x:Cp):Bool:=x.least==10000&&(x.most==10000&&true)
def qY6(c:Cf):Int:=bif (List.range' 0 (c.labels.length-0)).any (fun k=>!qGZ ((c.queues.getD 0 dQu).caps.getD k dCp)) then 13 else bif !qOA c then 13 else 0
def tO(c:Cf):Int :=
 bif rU c != 0 then rU c
 else bif (c.queues.length:Int)==0 then 12
 else bif !((c.queues.getD 0 dQu).path==fG) then 12
 else((List.range' 0 (c.queues.length-0)).findSome? fun i=>bif qB c i != 0 then some (qB c i) else none).getD (qY6 c)
theorem qCv{c:Cf}{i:Nat}(h:qB c i=0):qA (c.queues.getD i dQu).path=true∧(c.queues.getD i dQu).caps.length=c.labels.length∧(0<i→(dO c (eZ (c.queues.getD i dQu).path)).2=true):=by
 unfold qB at h
 cases h1:qA (c.queues.getD i dQu).path with
 | false=>rw[h1] at h;simp at h
 | true =>
 rw[h1] at h
 simp only[Bool.not_true,cond_false] at h
 cases h2:decide ((i:Int)>0)&&(Op.bytesLess (c.queues.getD i dQu).path (c.queues.getD (i-1) dQu).path||(c.queues.getD i dQu).path==(c.queues.getD (i-1) dQu).path) with
 | true=>rw[h2] at h;simp at h
 | false =>
 rw[h2] at h
 simp only[cond_false] at h
 cases h3:decide ((i:Int)>0)&&!(dO c (eZ (c.queues.getD i dQu).path)).2 with
 | true=>rw[h3] at h;simp at h
 | false =>
 rw[h3] at h
 simp only[cond_false] at h
 cases h4:decide ((c.queues.getD i dQu).user<1)||decide ((c.queues.getD i dQu).user>1000000)||(((c.queues.getD i dQu).caps.length:Int) != (c.labels.length:Int)) with
 | true=>rw[h4] at h;simp at h
 | false =>
 refine⟨rfl,?_,fun hi=>?_⟩
 ·exact qVX (Bool.or_eq_false_iff.1 h4).2
 ·have: decide ((i:Int)>0)=true:=by simp;omega
  rw[this] at h3;simpa using h3
theorem qHY{α:Type}{l:List α}{d a:α}(h:a∈l):∃i,i<l.length∧l.getD i d=a:=by
 obtain⟨i,hi,e⟩:=List.getElem_of_mem h
 exact⟨i,hi,by simp[List.getD,hi,e]⟩
theorem zFy{c:Cf}(h:CfN 1000000 c):qDj c=true∧qFz c=(tO c,()):=zE9 (by
 unfold qTr tO
 have hL:=zAS c
 simp only[hL.1,hL.2,bH]
 cases rU c != 0 with
 | true=>exact aF rfl
 | false =>
 simp only[fI,cond_false]
 cases hz:((c.queues.length:Int)==0) with
 | true=>exact aF rfl
 | false =>
 have hpos:0<c.queues.length:=by simp at hz;exact List.length_pos_iff.2 hz
 have e0:decide (0<(c.queues.length:Int))=true:=by simp;omega
 have hn:c.queues.length≤1000000000:=Nat.le_trans h.queues (by decide)
 have hl:c.labels.length≤1000000000:=Nat.le_trans h.labels (by decide)
 simp only[fI,cond_false,e0,Bool.and_true,bH,qCg]
 cases (c.queues.getD 0 dQu).path==fG with
 | false=>exact aF rfl
 | true =>
 simp only[Bool.not_true,fI,cond_false]
 have e1:∀(l:List Nat) (p:Nat→Option Int) (z:Int),((l.findSome? p).getD z,())=(l.findSome? fun i=>(p i).map fun r=>(r,())).getD (z,()):=by
  intro l p z
  induction l with
  | nil=>rfl
  | cons a l ih =>
   rw[List.findSome?_cons,List.findSome?_cons]
   cases p a with
   | none=>exact ih
   | some r=>rfl
 rw[e1]
 refine qY4 0 c.queues.length (fun i=>(i,())) _ _ (fun i _ hi=>?_) (fun i a b hp=>?_)
 ·have hq:=zFw h hi
  refine aF ?_
  simp only[sS,bF hi,hq.1,hq.2,aG hi hn]
  cases qB c i != 0<;>rfl
 ·have hi:=b (Nat.zero_le _)
  subst hi
  have hq0:∀j,j<c.queues.length→qB c j=0:=fun j hj=>by
   have:= hp j (Nat.zero_le _) hj
   cases hx:qB c j != 0 with
   | true=>rw[hx] at this;cases this
   | false=>simpa using hx
  have hall:∀q∈c.queues,q.caps.length=c.labels.length:=fun q hq=>by
   obtain⟨j,hj,e⟩:=qHY (d:=dQu) hq
   rw[←e];exact(qCv (hq0 j hj)).2.1
  have hS:=zHK h hall
  have hcap:=(qCv (hq0 0 hpos)).2.1
  simp only[bM,fI]
  unfold qY6
  have e2:(Sum.inr ((bif (List.range' 0 (c.labels.length-0)).any (fun k=>!qGZ ((c.queues.getD 0 dQu).caps.getD k dCp)) then 13 else bif !qOA c then 13 else 0:Int),()):(Int×Unit) ⊕ (Int×Unit))=bif (List.range' 0 (c.labels.length-0)).any (fun k=>!qGZ ((c.queues.getD 0 dQu).caps.getD k dCp)) then Sum.inr (13,()) else Sum.inr ((bif !qOA c then 13 else 0:Int),()):=by
   cases (List.range' 0 (c.labels.length-0)).any (fun k=>!qGZ ((c.queues.getD 0 dQu).caps.getD k dCp))<;>rfl
  rw[e2]
  refine qCt 0 c.labels.length (fun k=>(k,())) (fun k=>!qGZ ((c.queues.getD 0 dQu).caps.getD k dCp)) (Sum.inr (13,())) _ (fun k _ hk=>?_) (fun k a b _=>?_)
  ·have ek:ixB (k:Int) ((c.queues.getD 0 dQu).caps.length:Int)=true:=by rw[hcap];exact bG hk
   refine aF ?_
   simp only[sS,bF hk,ek,aG hk hl,qGZ]
   cases ((c.queues.getD 0 dQu).caps.getD k dCp).least==10000<;>cases ((c.queues.getD 0 dQu).caps.getD k dCp).most==10000<;>rfl
  ·have hk:=b (Nat.zero_le _)
   subst hk
   refine aF ?_
   simp only[sS,bM,hS.1,hS.2]
   cases qOA c<;>rfl)
theorem qFI{c:Cf}(h:tO c=0):rU c=0∧0<c.queues.length∧(c.queues.getD 0 dQu).path=fG∧∀i,i<c.queues.length→qB c i=0:=by
 unfold tO at h
 cases h1:rU c != 0 with
 | true=>rw[h1] at h;simp at h h1;exact absurd h h1
 | false =>
 rw[h1] at h
 simp only[cond_false] at h
 cases h2:(c.queues.length:Int)==0 with
 | true=>rw[h2] at h;simp at h
 | false =>
 rw[h2] at h
 simp only[cond_false] at h
 cases h3:(c.queues.getD 0 dQu).path==fG with
 | false=>rw[h3] at h;simp at h
 | true =>
 rw[h3] at h
 simp only[Bool.not_true,cond_false] at h
 refine⟨by simpa using h1,by simp at h2;exact List.length_pos_iff.2 h2,by simpa using h3,fun i hi=>?_⟩
 have:= qWj (lo:=0) (k:=c.queues.length) (p:=fun i=>bif qB c i != 0 then some (qB c i) else none) (fin:=qY6 c) (ok:=fun r=>r=0) (fun i r _ _ e=>by
  cases hx:qB c i != 0 with
  | false=>simp only[hx,cond_false] at e;cases e
  | true=>simp only[hx,cond_true,Option.some.injEq] at e;rw[←e];simpa using hx) h i (Nat.zero_le _) (by omega)
 cases hx:qB c i != 0 with
 | false=>simpa using hx
 | true=>simp only[hx,cond_true] at this;cases this
theorem qOB{s:B}:∀(l:List Nat) (v w:Nat×Nat),goE (oJ s) l v=.inl w→w.2=v.2+(l.filter (wG s)).length
 | [],v,w,h=>by unfold goE at h;cases h;rfl
 | i::l,v,w,h=>by
  unfold goE at h
  cases hf:oJ s v i with
  | inr r=>rw[hf] at h;cases h
  | inl u =>
   rw[hf] at h
   have ih:=qOB l u w h
   rcases qWk hf with⟨e1,e2⟩ | ⟨e1,e2⟩
   ·rw[ih,e1,List.filter_cons,e2];simp
   ·rw[ih,e1,List.filter_cons,e2];simp;omega
def dots(s:B):Nat:=((List.range s.length).filter fun i=>qBe (s.getD i 0)).length
theorem qWn(s:B):((List.range (s.length+1)).filter (wG s)).length=dots s+1:=by
 rw[List.range_succ,List.filter_append,List.length_append]
 have e1:([s.length].filter (wG s)).length=1:=by
  have: wG s s.length=true:=by unfold wG;simp
  rw[List.filter_cons,this];rfl
 rw[e1]
 unfold dots
 have: (List.range s.length).filter (wG s)=(List.range s.length).filter fun i=>qBe (s.getD i 0):=by
  refine List.filter_congr fun i hi=>?_
  have hi:i<s.length:=by simpa using hi
  unfold wG qBe
  have e:decide (i<s.length)=true:=by simp[hi]
  rw[e,Bool.true_and]
 rw[this]
theorem qQ4{s:B}(h:qA s=true):dots s≤3:=by
 unfold qA at h
 cases hg:goE (oJ s) (List.range (s.length+1)) (0,0) with
 | inr b =>
  have hb:=qAd (f:=oJ s) (fun _=>True) (fun b=>b=false) (List.range (s.length+1)) (fun v i _ _=>by
   unfold oJ
   cases !wG s i with
   | true=>trivial
   | false =>
    cases !qCu (aH v.1 i s)||(Nat.beq v.2 0&&!(aH v.1 i s==fG)) with
    | true=>exact rfl
    | false=>trivial) (b:=(0,0)) trivial
  rw[hg] at hb h
  have hb:b=false:=hb
  rw[hb] at h;cases h
 | inl v =>
  rw[hg] at h
  have hc:=qOB _ _ _ hg
  rw[qWn] at hc
  have hv:decide ((v.2:Int)≤4)=true:=h
  simp at hv
  omega
theorem qEz(p:B):∀n,0≤eT p n→qBe (p.getD (eT p n).toNat 0)=true∧(eT p n).toNat<n
 | 0,h=>by simp[eT] at h
 | n+1,h=>by
  unfold eT at h ⊢
  cases hd:qBe (p.getD n 0) with
  | true=>simp only[cond_true,Int.toNat_natCast];exact⟨hd,Nat.lt_succ_self _⟩
  | false =>
   rw[hd] at h
   simp only[cond_false] at h ⊢
   exact⟨(qEz p n h).1,Nat.lt_succ_of_lt (qEz p n h).2⟩
theorem qWo{p:B}(h:eZ p≠[]):dots (eZ p)+1≤dots p:=by
 unfold eZ at h ⊢
 cases hc:decide (eT p p.length<0) with
 | true=>rw[hc] at h;exact absurd rfl h
 | false =>
  simp only[cond_false]
  have h0:0≤eT p p.length:=by simp at hc;omega
  obtain⟨h1,h2⟩:=qEz p p.length h0
  generalize (eT p p.length).toNat=d at h1 h2 ⊢
  unfold dots
  have el:(p.take d).length=d:=by rw[List.length_take];omega
  rw[el]
  have e1:(List.range d).filter (fun i=>qBe ((p.take d).getD i 0))=(List.range d).filter fun i=>qBe (p.getD i 0):=by
   refine List.filter_congr fun i hi=>?_
   have hi:i<d:=by simpa using hi
   have: (p.take d).getD i 0=p.getD i 0:=by simp[List.getD,hi]
   rw[this]
  rw[e1]
  have e2:List.range p.length=List.range d++(d::List.range' (d+1) (p.length-(d+1))):=by
   rw[List.range_eq_range',List.range_eq_range',←List.range'_succ]
   have: p.length=d+(p.length-(d+1)+1):=by omega
   conv=>lhs;rw[this]
   rw[←List.range'_append_1,Nat.zero_add]
  rw[e2,List.filter_append,List.length_append,List.filter_cons,h1]
  simp
theorem qLQ{c:Cf}{p:B}{q:Qu}(hq:q∈c.queues)(e:q.path=p):(dO c p).2=true:=by
 unfold dO findD
 cases hf:c.queues.find? (fun q=>q.path==p) with
 | none=>have:= List.find?_eq_none.1 hf q hq;simp[e] at this
 | some r=>rfl
theorem qE0{c:Cf}{p:B}(h:(dO c p).2=true):(dO c p).1∈c.queues∧(dO c p).1.path=p:=by
 unfold dO findD at h ⊢
 cases hf:c.queues.find? (fun q=>q.path==p) with
 | none=>rw[hf] at h;cases h
 | some q=>exact⟨List.mem_of_find?_eq_some hf,by simpa using List.find?_some hf⟩
theorem qY7{c:Cf}(hp:∀q∈c.queues,qA q.path=true):∀(n:Nat) (p:B),4≤dots p+n→0<n→Deep c n p
 | 0,p,_,h=>absurd h (Nat.lt_irrefl 0)
 | n+1,p,h,_=>by
  intro k hk
  obtain⟨h1,h2,q,hq,e⟩:=rE hk
  have h3:=qQ4 (hp q hq)
  rw[e] at h3
  have h4:=qWo (p:=k) (by rw[h1];exact h2)
  rw[h1] at h4
  exact qY7 hp n k (by omega) (by omega)
theorem qOC{c:Cf}(hu:∀q∈c.queues,eZ q.path≠[]→(dO c (eZ q.path)).2=true):∀(n:Nat) (p:B),(dO c p).2=true→∀x∈upN n p,(dO c x).2=true
 | 0,p,h,x,hx=>by cases hx
 | n+1,p,h,x,hx=>by
  unfold upN at hx
  cases hp:p==[] with
  | true=>rw[hp] at hx;cases hx
  | false =>
   rw[hp] at hx
   rcases List.mem_cons.1 hx with e | e
   ·rw[e];exact h
   ·by_cases ha:eZ p=[]
    ·rw[ha] at e;cases n<;>cases e
    ·have hm:=qE0 h
     have:= hu _ hm.1 (by rw[hm.2];exact ha)
     rw[hm.2] at this
     exact qOC hu n _ this x e
theorem qWp:eZ fG=[]:=by decide
theorem qCw{c:Cf}(h:tO c=0):yF c∧c.labels.length≤3∧∀q∈c.queues,q.caps.length=c.labels.length:=by
 obtain⟨h1,h2,h3,h4⟩:=qFI h
 have hL:c.labels.length≤3∧c.queues.length≤16:=by
  unfold rU at h1
  cases hx:decide ((c.labels.length:Int)<1)||decide ((c.labels.length:Int)>3)||decide ((c.queues.length:Int)>16) with
  | true=>rw[hx] at h1;simp at h1
  | false=>simp at hx;omega
 have hall:∀q∈c.queues,qA q.path=true∧q.caps.length=c.labels.length∧(eZ q.path≠[]→(dO c (eZ q.path)).2=true):=fun q hq=>by
  obtain⟨j,hj,e⟩:=qHY (d:=dQu) hq
  have:= qCv (h4 j hj)
  rw[e] at this
  refine⟨this.1,this.2.1,fun ha=>?_⟩
  rcases Nat.eq_zero_or_pos j with e0 | e0
  ·subst e0
   rw[←e,h3,qWp] at ha
   exact absurd rfl ha
  ·exact this.2.2 e0
 refine⟨⟨fun path hf p hp=>?_,qY7 (fun q hq=>(hall q hq).1) 6 fG (by omega) (by decide),hL.2⟩,hL.1,fun q hq=>(hall q hq).2.1⟩
 have hfound:=qOC (fun q hq ha=>(hall q hq).2.2 ha) path.length path hf p (List.mem_of_mem_take (by rw[List.dropLast_eq_take] at hp;exact hp))
 have hm:=qE0 hfound
 exact Nat.le_of_eq (hall _ hm.1).2.1.symm
end Go.Proofs.YtehpnjmgjmkjaaaGreatDoor
