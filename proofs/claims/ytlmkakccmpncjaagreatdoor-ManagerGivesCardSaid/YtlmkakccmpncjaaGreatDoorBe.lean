/- Part of the proof: texts Bi Bj. No conditions. -/
import Derived.Test.YtlmkakccmpncjaaGreatDoorBd
set_option linter.all false
namespace Go.Proofs.YtlmkakccmpncjaaGreatDoor
open Go Go.W Go.Proofs
open Go.W.DT (ret need br bad loop join)
set_option maxRecDepth 100000
def qAs(l:List Pn)(total:Vec)(p:Pn)(long:Int)(best t:Int):Int :=
 bif decide (t≥p.start)&&decide (t≤1000000)&&decide (w64 (t+long)≤p.stop)&&(decide (best<0)||decide (t<best))&&qPD l total p t long then t else best
def qIU(l:List Pn)(total:Vec)(p:Pn)(long:Int):Int×Int×Unit :=
 bif decide (long<1)||decide (long>1000)||decide (p.start<0)||decide (p.start>1000000)||decide (p.stop<0)||decide (p.stop>1000000)||!(decide (p.need.mem≥0)&&decide (p.need.mem≤1073741824))||!(decide (p.need.cores≥0)&&decide (p.need.cores≤1073741824)) then(0,1,())
 else let best:=(p.start::l.map (·.stop)).foldl (qAs l total p long) (-1)
  bif decide (best<0) then(0,16,()) else(best,0,())
theorem zCa{l:List Pn}(total:Vec)(p:Pn)(long:Int)(hn:l.length≤1000000000):qAX l total p long=true∧qDu l total p long=qIU l total p long:=zBB (by
 unfold qN6 qIU
 cases decide (long<1)
 case true=>rfl
 cases decide (long>1000)
 case true=>rfl
 cases decide (p.start<0)
 case true=>rfl
 cases decide (p.start>1000000)
 case true=>rfl
 cases decide (p.stop<0)
 case true=>rfl
 cases decide (p.stop>1000000)
 case true=>rfl
 cases decide (p.need.mem≥0)
 case false=>rfl
 cases decide (p.need.mem≤1073741824)
 case false=>rfl
 cases decide (p.need.cores≥0)
 case false=>rfl
 cases decide (p.need.cores≤1073741824)
 case false=>rfl
 refine aV rfl (aV rfl (aV rfl (aV rfl (aV rfl (aV rfl (bW rfl (aV rfl (bW rfl (aV rfl ?_)))))))))
 simp only[Bool.or_self,uy,j6,cond_false]
 have hL:(p.start::l.map (·.stop)).length=l.length+1:=by simp
 have hg:∀i:Nat,i<l.length→(p.start::l.map (·.stop)).getD (i+1) 0=(l.getD i dPn).stop:=by
  intro i hi
  simp[List.getD,hi]
 generalize hLL:(p.start::l.map (·.stop))=L at hL hg
 have h0:L.getD 0 0=p.start:=by rw[←hLL];rfl
 refine aN (L.foldl (qAs l total p long) (-1),()) (nM L 0 (fun i (b:Int)=>(b,i-1,())) (qAs l total p long) (fun b=>Sum.inl (b,())) (fun _ _=>True) (fun i b hi _=>⟨trivial,?_⟩) (fun b _=>?_) (b0:=-1) trivial) (aF ?_)
 ·have hq:=zGD total p (L.getD i 0) long hn
  have e1:decide ((i:Int)-1<(l.length:Int))=true:=by simp;omega
  have e2:w64 ((i:Int)-1+1)=((i+1:Nat):Int)-1:=by rw[dI]<;>omega
  have e3:∀{ρ:Type},(DT.run (br (decide ((i:Int)-1≥0)) (need (ixB ((i:Int)-1) (l.length:Int)) (ret (Sum.inl ((l.getD (Int.toNat ((i:Int)-1)) dPn).stop,()):(Int×Unit) ⊕ ρ))) (ret (Sum.inl (p.start,())))))=some (Sum.inl (L.getD i 0,())):=by
   intro ρ
   cases i with
   | zero=>rw[h0];rfl
   | succ i =>
    have hi2:i<l.length:=by omega
    have f1:((i+1:Nat):Int)-1=(i:Int):=by omega
    rw[f1,hg i hi2]
    simp only[sS,bB hi2,qCr,ge_iff_le]
  refine bW e1 (aN (qAs l total p long b (L.getD i 0),()) (aN (L.getD i 0,()) (aF e3) (aF ?_)) (aF (by simp only[sS,e2])))
  simp only[eG,dD,cB,hq.1,hq.2,qAs,cond_true]
  cases decide (L.getD i 0≥p.start)<;>(try rfl)
  cases decide (L.getD i 0≤1000000)<;>(try rfl)
  cases decide (w64 (L.getD i 0+long)≤p.stop)<;>(try rfl)
  cases decide (b<0)<;>(try rfl)<;>cases decide (L.getD i 0<b)<;>(try rfl)<;>cases qPD l total p (L.getD i 0) long<;>rfl
 ·have e1:decide ((L.length:Int)-1<(l.length:Int))=false:=by simp;omega
  exact aF (by simp only[sS,e1])
 ·simp only[sS]
  cases decide (L.foldl (qAs l total p long) (-1)<0)<;>rfl)
def pV(id:Int)(l:List Pn):Nat:=(List.range l.length).foldl (fun k i=>bif decide ((l.getD i dPn).id<id) then i+1 else k) 0
def qGh(s:Se)(p:Pn)(long:Int):Se×Int×Int×Unit :=
 bif decide (p.id<0)||decide (p.id>999)||decide (p.label<0)||decide (p.label≥(s.conf.labels.length:Int))||(p.need.mem==0&&p.need.cores==0) then(s,0,1,())
 else bif s.plans.any (·.id==p.id) then(s,0,7,())
 else bif decide ((s.plans.length:Int)≥12) then(s,0,4,())
 else bif decide (p.start<s.now) then(s,0,15,())
 else let r:=qIU s.plans (gB s p.label) p long
  bif r.2.1 != 0 then(s,0,r.2.1,())
  else({ s with plans:=(s.plans.take (pV p.id s.plans)++[⟨p.id,p.label,r.1,w64 (r.1+long),p.need⟩])++s.plans.drop (pV p.id s.plans) },r.1,0,())
theorem dB{β:Type}(f:β→Nat→β)(b:β)(n:Nat):(List.range (n+1)).foldl f b=f ((List.range n).foldl f b) n:=by
 rw[List.range_succ,List.foldl_append];rfl
theorem zCb(id:Int)(l:List Pn):pV id l≤l.length:=by
 unfold pV
 have: ∀n,n≤l.length→(List.range n).foldl (fun k i=>bif decide ((l.getD i dPn).id<id) then i+1 else k) 0≤n:=by
  intro n
  induction n with
  | zero=>intro _;exact df 0
  | succ n ih =>
   intro h
   rw[dB]
   have:= ih (by omega)
   cases decide ((l.getD n dPn).id<id) with
   | true=>exact df _
   | false=>exact p8 this
 exact this _ (df _)
theorem zKi{s:Se}(p:Pn)(long:Int)(h:dH s)(hn:s.plans.length≤900000000):qFQ s p long=true∧qIN s p long=qGh s p long:=zJN (by
 unfold qY9 qGh
 cases decide (p.id<0)
 case true=>rfl
 cases decide (p.id>999)
 case true=>rfl
 cases decide (p.label<0)
 case true=>rfl
 cases decide (p.label≥(s.conf.labels.length:Int))
 case true=>rfl
 refine aV rfl (aV rfl (aV rfl (aV rfl ?_)))
 have e00:(p.need.mem==0&&(p.need.cores==0&&true))=(p.need.mem==0&&p.need.cores==0):=by rw[fq]
 rw[e00]
 simp only[Bool.or_self,ou,aK]
 cases p.need.mem==0&&p.need.cores==0
 case true=>rfl
 refine aV rfl ?_
 simp only[cond_false]
 have hN:=h.plans
 cases hany:s.plans.any (·.id==p.id) with
 | true =>
  refine uT ?_
  refine qHv s.plans.length (fun i=>((((List.range i.toNat).foldl (fun k i=>bif decide ((s.plans.getD i dPn).id<p.id) then i+1 else k) 0:Nat):Int),i,())) (fun i=>∀j,j<i→((s.plans.getD j dPn).id==p.id)=false) (fun i hi hI=>?_) (fun hI=>?_) (i0:=0) (fun j hj=>by omega) (cz _)
  ·cases hc:(s.plans.getD i dPn).id==p.id with
   | true=>right;refine aF ?_;simp only[sS,bB hi,aY hi,hc]
   | false =>
    left
    refine⟨fun j hj=>?_,aF ?_⟩
    ·rcases iw j i with g | g
     ·exact hI j g
     ·have: j=i:=by omega
      subst this;exact hc
    ·simp only[sS,bB hi,aY hi,hc,aD hi hN,dB]
     cases decide ((s.plans.getD i dPn).id<p.id)<;>rfl
  ·rw[qh] at hany
   obtain⟨x,hx,hxe⟩:=hany
   obtain⟨j,hj,e⟩:=qd hx
   have:= hI j hj
   simp[List.getD,hj,e] at this
   simp at hxe
   exact(this hxe).elim
 | false =>
  have hno:∀i,i<s.plans.length→((s.plans.getD i dPn).id==p.id)=false:=by
   intro i hi
   rw[List.any_eq_false] at hany
   simpa using hany _ (bL hi)
  refine aN ((pV p.id s.plans:Int),()) ?_ ?_
  ·refine qHv s.plans.length (fun i=>((((List.range i.toNat).foldl (fun k i=>bif decide ((s.plans.getD i dPn).id<p.id) then i+1 else k) 0:Nat):Int),i,())) (fun _=>True) (fun i hi _=>.inl ⟨trivial,aF ?_⟩) (fun _=>aF ?_) (i0:=0) trivial (cz _)
   ·simp only[sS,bB hi,aY hi,hno i hi,aD hi hN,dB]
    cases decide ((s.plans.getD i dPn).id<p.id)<;>rfl
   ·simp only[sS,bE,pV]
  ·have hk:=zCb p.id s.plans
   have hq:=zCa (gB s p.label) p long hN
   simp only[cond_false]
   cases decide ((s.plans.length:Int)≥12)
   case true=>rfl
   cases decide (p.start<s.now)
   case true=>rfl
   refine aV rfl (aV rfl (aH (aM.2 h) (aH hq.1 ?_)))
   rw[hq.2]
   simp only[cond_false]
   generalize qIU s.plans (gB s p.label) p long=r
   cases hr:r.2.1 != 0 with
   | true=>exact aF (by simp only[sS,hr])
   | false =>
   refine aV rfl ?_
   refine aN (s.plans.take (pV p.id s.plans),()) (aF (zNf hk hN (by decide))) ?_
   refine aN (s.plans.take (pV p.id s.plans)++[⟨p.id,p.label,r.1,w64 (r.1+long),p.need⟩],()) (aF (zBY (by rw[ed];omega) (by decide))) ?_
   have hl3:(s.plans.take (pV p.id s.plans)++[(⟨p.id,p.label,r.1,w64 (r.1+long),p.need⟩:Pn)]).length+(s.plans.drop (pV p.id s.plans)).length≤1000000000:=by
    simp only[dh,ed,il,dw,gq];omega
   generalize s.plans.take (pV p.id s.plans)++[(⟨p.id,p.label,r.1,w64 (r.1+long),p.need⟩:Pn)]=xs at hl3 ⊢
   refine aF ?_
   have e3:List.take (xs.length+(s.plans.drop (pV p.id s.plans)).length) (xs++s.plans.drop (pV p.id s.plans))=xs++s.plans.drop (pV p.id s.plans):=by rw[←dh,iq]
   simp only[sS,wG,zGN hk,dK hl3 (by decide:48≤100000),e3])
def lo2(a b:Int):Int:=if b<a then b else a
def n16(least want most:List Int):Nat:=min (min least.length want.length) most.length
def x16(least want most:List Int)(left:Int)(i:Nat):Int:=lo2 (lo2 (lo2 (rT (least.getD i 0)) (rT (want.getD i 0))) (rT (most.getD i 0))) left
def wU(least want most:List Int)(v:List Int×Int)(i:Nat):List Int×Int:=(v.1++[x16 least want most v.2 i],w64 (v.2-x16 least want most v.2 i))
def y16(want most:List Int)(v:List Int×Int)(i:Nat):Int :=
 lo2 (if 0>w64 (lo2 (rT (want.getD i 0)) (rT (most.getD i 0))-v.1.getD i 0) then 0 else w64 (lo2 (rT (want.getD i 0)) (rT (most.getD i 0))-v.1.getD i 0)) v.2
def qAt(want most:List Int)(v:List Int×Int)(i:Nat):List Int×Int:=(v.1.set i (w64 (v.1.getD i 0+y16 want most v i)),w64 (v.2-y16 want most v i))
def qDE(total:Int)(least want most:List Int):List Int :=
 ((List.range (n16 least want most)).foldl (qAt want most) ((List.range (n16 least want most)).foldl (wU least want most) ([],rT total))).1
theorem qGi(least want most:List Int)(n:Nat)(v:List Int×Int):((List.range n).foldl (wU least want most) v).1.length=v.1.length+n:=by
 induction n with
 | zero=>rfl
 | succ n ih=>rw[dB];simp only[wU,dh,gz,ih];omega
theorem qPG(want most:List Int)(n:Nat)(v:List Int×Int):((List.range n).foldl (qAt want most) v).1.length=v.1.length:=by
 induction n with
 | zero=>rfl
 | succ n ih=>rw[dB];simp only[qAt,List.length_set,ih]
theorem qTt(total:Int)(least want most:List Int):(qDE total least want most).length=n16 least want most:=by
 unfold qDE
 rw[qPG,qGi]
 simp
theorem qIh{β σ ρ:Type}(n:Nat)(enc:Int→β→σ){body:σ→DT (σ ⊕ ρ)}(f:β→Nat→β)(fin:β→ρ)(I:Nat→β→Prop)
  (hstep:∀(i:Nat) (b:β),i<n→I i b→I (i+1) (f b i)∧(body (enc (i:Int) b)).G (.inl (enc ((i+1:Nat):Int) (f b i))))
  (hend:∀b,I n b→(body (enc (n:Int) b)).G (.inr (fin b))) {b0:β} (h0:I 0 b0):(DT.loop (enc 0 b0) body).G (fin ((List.range n).foldl f b0)):=by
 have key:∀i:Nat,i≤n→I i ((List.range i).foldl f b0)→∀k,n-i<k→DT.yO (fun s y=>(body s).G y) k (enc (i:Int) ((List.range i).foldl f b0)) (fin ((List.range n).foldl f b0)):=by
  intro i hi hI k
  induction k generalizing i with
  | zero=>intro h;omega
  | succ k ih =>
   intro hk
   rcases iw i n with h | h
   ·obtain⟨h1,h2⟩:=hstep i _ h hI
    rw[←dB f b0 i] at h1 h2
    exact⟨_,h2,ih (i+1) (by omega) h1 (by omega)⟩
   ·have e:i=n:=by omega
    subst e
    exact⟨_,hend _ hI,rfl⟩
 exact DT.pF.2 ⟨_,key 0 (cz _) h0 (n+1) (by omega)⟩
theorem zCc(total:Int){least want most:List Int}(h1:least.length≤1000000000):qAU total least want most=true∧qDp total least want most=(qDE total least want most,()):=zB8 (by
 unfold qN3
 refine aH (tO _).1 ?_
 rw[(tO _).2]
 have hN:(if(most.length:Int)<if(want.length:Int)<(least.length:Int) then(want.length:Int) else(least.length:Int) then(most.length:Int) else if(want.length:Int)<(least.length:Int) then(want.length:Int) else(least.length:Int))=(n16 least want most:Int):=by
  unfold n16;grind
 have hn1:n16 least want most≤least.length:=by unfold n16;omega
 have hn2:n16 least want most≤want.length:=by unfold n16;omega
 have hn3:n16 least want most≤most.length:=by unfold n16;omega
 rw[hN]
 unfold qDE
 generalize n16 least want most=n at hN hn1 hn2 hn3 ⊢
 refine aN (_,_,()) (qIh n (fun i (v:List Int×Int)=>(v.1,v.2,i,())) (wU least want most) (fun v=>Sum.inl (v.1,v.2,())) (fun i v=>v.1.length=i) (fun i v hi hI=>⟨?_,?_⟩) (fun v hI=>aF ?_) (b0:=([],rT total)) rfl) ?_
 ·simp[wU];exact hI
 ·have hI:v.1.length=i:=hI
  have g1:i<least.length:=by omega
  have g2:i<want.length:=by omega
  have g3:i<most.length:=by omega
  refine bW (aY hi) (aH (bB g1) (aH (tO _).1 (aH (bB g2) (aH (tO _).1 (aH (bB g3) (aH (tO _).1 ?_))))))
  simp only[di,(tO _).2]
  refine aN (v.1++[x16 least want most v.2 i],()) (aF (zBY (by omega) (by decide))) (aF ?_)
  simp only[sS,aD g1 h1,wU]
  rfl
 ·simp only[sS,bE]
 ·have hl0:=qGi least want most n ([],rT total)
  generalize (List.range n).foldl (wU least want most) ([],rT total)=v0 at hl0 ⊢
  have hl0:v0.1.length=n:=by simpa using hl0
  refine qIh n (fun i (v:List Int×Int)=>(v.2,i,v.1,())) (qAt want most) (fun v=>(v.1,())) (fun i v=>v.1.length=n) (fun i v hi hI=>⟨?_,aF ?_⟩) (fun v hI=>aF ?_) (b0:=v0) hl0
  ·simp[qAt];exact hI
  ·have hI:v.1.length=n:=hI
   have g2:i<want.length:=by omega
   have g3:i<most.length:=by omega
   have g4:i<v.1.length:=by omega
   have g5:i<v0.1.length:=by omega
   simp only[sS,qCr,aY hi,aY g5,qCv g4,bB g2,bB g3,aD hi (show n≤1000000000 by omega),(tO _).1,(tO _).2,qAt]
   rfl
  ·have hI:v.1.length=n:=hI
   have e:Nat.ble v0.1.length v.1.length=true:=qHb.2 (by omega)
   have e2:List.take v0.1.length v.1=v.1:=kz (by omega)
   simp only[sS,bE,e,e2])
def Deep(c:Cf):Nat→B→Prop
 | 0,_=>False
 | n+1,p=>∀k∈fG c p,Deep c n k
def gH(s:Se)(label:Int):Nat→B→List B
 | 0,_=>[]
 | n+1,p=>bif ((mV s p label).length:Int)==0 then[p] else(mV s p label).foldl (fun out k=>out++gH s label n k) []
theorem qLb{s:Se}{path k:B}{label:Int}(h:k∈mV s path label):k∈fG s.conf path:=by
 unfold mV at h
 have: ∀(l:List B) (v:List B),∀b∈l.foldl (fun out a=>qDR (fun b=>!kW s a b label) a out) v,b∈v∨b∈l:=by
  intro l
  induction l with
  | nil=>intro v b hb;exact .inl hb
  | cons a l ih =>
   intro v b hb
   rcases ih _ b hb with e | e
   ·rcases qLa e with e | e
    ·exact .inr (by rw[e];exact j4)
    ·exact .inl e
   ·exact .inr (gy _ e)
 rcases this _ _ _ h with e | e
 ·cases e
 ·exact e
theorem qWi(s:Se)(path:B)(label:Int):(mV s path label).length=(fG s.conf path).length:=by
 unfold mV
 have: ∀(l:List B) (v:List B),(l.foldl (fun out a=>qDR (fun b=>!kW s a b label) a out) v).length=v.length+l.length:=by
  intro l
  induction l with
  | nil=>intro v;rfl
  | cons a l ih=>intro v;rw[List.foldl,ih,qCy,dw];omega
 rw[this];simp
theorem qCz{α β:Type}(g:α→List β)(M:Nat):∀(l:List α) (v:List β),(∀a∈l,(g a).length≤M)→(l.foldl (fun out k=>out++g k) v).length≤v.length+l.length*M
 | [],v,_=>by simp
 | a::l,v,h=>by
  rw[List.foldl]
  refine bq (qCz g M l _ fun b hb=>h b (gy _ hb)) ?_
  have:= h a j4
  rw[dh,dw,jd]
  omega
theorem qTu{s:Se}(label:Int)(h:dH s)(hu:qHw s.conf)(hq:s.conf.queues.length≤16):∀(n:Nat) (path:B),n≤6→Deep s.conf n path→∀fu,n≤fu→(pR fu s path label=true∧tL fu s path label=(gH s label n path,()))∧(gH s label n path).length≤16 ^ n
 | 0,path,_,hd,_,_=>hd.elim
 | n+1,path,hn,hd,0,hf=>by omega
 | n+1,path,hn,hd,fu+1,hf=>by
  have hk:=zGR (path:=path) label h hu (by omega)
  have hkl:(mV s path label).length≤16:=by rw[qWi];exact bq (qHy _ _) hq
  have ih:∀k∈mV s path label,(pR fu s k label=true∧tL fu s k label=(gH s label n k,()))∧(gH s label n k).length≤16 ^ n:=fun k hkm=>qTu label h hu hq n k (by omega) (hd k (qLb hkm)) fu (by omega)
  have hp:16 ^ n≤1048576:=by
   have: 16 ^ n≤16 ^ 5:=uz (by decide) (by omega)
   exact this
  refine⟨qVX ?_,?_⟩
  ·unfold qE6
   refine aH hk.1 ?_
   rw[hk.2]
   unfold gH
   cases hz:((mV s path label).length:Int)==0 with
   | true=>exact bW rfl rfl
   | false =>
   refine aV rfl ?_
   simp only[cond_false]
   refine nM (mV s path label) [] (fun i (v:List B)=>(v,i,())) (fun out k=>out++gH s label n k) (fun v=>(v,())) (fun i v=>v.length≤i*16 ^ n) (fun i v hi hI=>⟨?_,aF ?_⟩) (fun v hI=>aF ?_) (b0:=[]) (cz _)
   ·have:= (ih _ (bL (d:=[]) hi)).2
    show(v++gH s label n _).length≤_
    rw[dh,jd]
    have hI:v.length≤i*16 ^ n:=hI
    omega
   ·have hI:v.length≤i*16 ^ n:=hI
    obtain⟨⟨i1,i2⟩,i3⟩:=ih _ (bL (d:=[]) hi)
    have hb:i*16 ^ n≤16*1048576:=o5 (by omega) hp
    have hfit:aT (v.length+(gH s label n ((mV s path label).getD i [])).length) 16=true:=dK (by omega) (by decide)
    simp only[sS,bB hi,aY hi,aD hi (show(mV s path label).length≤1000000000 by omega),i1,i2,hfit]
   ·simp only[sS,bE]
  ·unfold gH
   cases hz:((mV s path label).length:Int)==0 with
   | true=>simp only[cond_true,gz];exact Nat.one_le_pow _ _ (by decide)
   | false =>
    simp only[cond_false]
    refine bq (qCz _ (16 ^ n) _ _ fun k hkm=>(ih k hkm).2) ?_
    rw[gq,dm,Nat.pow_succ,p9 (16 ^ n)]
    exact o5 hkl (df _)
def qC0(s:Se)(label:Int)(k:B):Int:=w64 ((gL s k label true 0).mem+(rQ s k label).mem)
def pW(s:Se)(label mem:Int)(ks:List B):List Int:=qDE mem (ks.map fun k=>(gG s k label true).mem) (ks.map (qC0 s label)) (ks.map fun k=>(gG s k label false).mem)
def uK(s:Se)(label:Int):Nat→B→Int→List Sh
 | 0,_,_=>[]
 | n+1,p,mem=>bif ((fG s.conf p).length:Int)==0 then[⟨p,mem⟩] else
  (List.range (fG s.conf p).length).foldl (fun out i=>out++uK s label n ((fG s.conf p).getD i []) ((pW s label mem (fG s.conf p)).getD i 0)) []
theorem qTv(s:Se)(label mem:Int)(ks:List B):(pW s label mem ks).length=ks.length:=by
 unfold pW
 rw[qTt]
 unfold n16
 simp
theorem qNS{α:Type}(f g w:α→Int):∀(l:List α) (v:List Int×List Int×List Int),l.foldl (fun v k=>(v.1++[f k],v.2.1++[g k],v.2.2++[w k])) v=(v.1++l.map f,v.2.1++l.map g,v.2.2++l.map w)
 | [],v=>by simp
 | a::l,v=>by rw[List.foldl,qNS f g w l];simp
theorem qWj{s:Se}(label:Int)(h:dH s)(hu:qHw s.conf)(hq:s.conf.queues.length≤16):∀(n:Nat) (path:B) (mem:Int),n≤6→Deep s.conf n path→∀fu,n≤fu→(wQ fu s path label mem=true∧qAn fu s path label mem=(uK s label n path mem,()))∧(uK s label n path mem).length≤16 ^ n
 | 0,path,mem,_,hd,_,_=>hd.elim
 | n+1,path,mem,hn,hd,0,hf=>by omega
 | n+1,path,mem,hn,hd,fu+1,hf=>by
  have hc:CfN 1000000000 s.conf:=⟨h.labels,h.queues,h.qu⟩
  have hkl:(fG s.conf path).length≤16:=bq (qHy _ _) hq
  have hpl:∀k∈fG s.conf path,k.length≤1000000000:=by
   intro k hk
   obtain⟨_,_,q,hq,rfl⟩:=rU hk
   exact(h.qu q hq).2
  have ih:∀k∈fG s.conf path,∀m,(wQ fu s k label m=true∧qAn fu s k label m=(uK s label n k m,()))∧(uK s label n k m).length≤16 ^ n:=fun k hkm m=>qWj label h hu hq n k m (by omega) (hd k hkm) fu (by omega)
  have hp:16 ^ n≤1048576:=by
   have: 16 ^ n≤16 ^ 5:=uz (by decide) (by omega)
   exact this
  generalize hks:fG s.conf path=ks at hkl hpl ih
  have hN:ks.length≤1000000000:=by omega
  refine⟨zGo ?_,?_⟩
  ·unfold qKQ
   refine aH (kU.2 hc) ?_
   simp only[aK]
   unfold uK
   rw[hks]
   cases hz:(ks.length:Int)==0 with
   | true=>exact bW rfl rfl
   | false =>
   refine aV rfl ?_
   simp only[cond_false]
   refine aN (ks.map (fun k=>(gG s k label true).mem),ks.map (fun k=>(gG s k label false).mem),ks.map (qC0 s label),()) ?_ ?_
   ·have e:=qNS (fun k=>(gG s k label true).mem) (fun k=>(gG s k label false).mem) (qC0 s label) ks ([],[],[])
    simp only[l6] at e
    have e':(Sum.inl (ks.map (fun k=>(gG s k label true).mem),ks.map (fun k=>(gG s k label false).mem),ks.map (qC0 s label),()):(List Int×List Int×List Int×Unit) ⊕ (List Sh×Unit))=(fun v:List Int×List Int×List Int=>Sum.inl (v.1,v.2.1,v.2.2,())) (ks.foldl (fun v k=>(v.1++[(gG s k label true).mem],v.2.1++[(gG s k label false).mem],v.2.2++[qC0 s label k])) ([],[],[])):=by rw[e]
    rw[e']
    refine nM ks [] (fun i (v:List Int×List Int×List Int)=>(v.1,v.2.1,v.2.2,i,())) (fun v k=>(v.1++[(gG s k label true).mem],v.2.1++[(gG s k label false).mem],v.2.2++[qC0 s label k])) (fun v=>Sum.inl (v.1,v.2.1,v.2.2,())) (fun i v=>v.1.length=i∧v.2.1.length=i∧v.2.2.length=i) (fun i v hi hI=>⟨?_,?_⟩) (fun v hI=>aF ?_) (b0:=([],[],[])) ⟨rfl,rfl,rfl⟩
    ·simp;exact hI
    ·obtain⟨i1,i2,i3⟩:=hI
     have hk1:=hpl _ (bL (d:=[]) hi)
     have d1:=yB label true h hu hk1
     have d2:=yB label false h hu hk1
     have d3:=nD (ks.getD i []) label true 0 h
     have d4:=qIf (ks.getD i []) label h
     refine bW (aY hi) (aN (v.1++[(gG s (ks.getD i []) label true).mem],()) (aF ?_) (aN (v.2.1++[(gG s (ks.getD i []) label false).mem],()) (aF ?_) (aF ?_)))
     ·simp only[sS,bB hi,d1.1,d1.2,dK (show v.1.length+1≤1000000000 by omega) (by decide:8≤100000)]
     ·simp only[sS,bB hi,d2.1,d2.2,dK (show v.2.1.length+1≤1000000000 by omega) (by decide:8≤100000)]
     ·simp only[sS,bB hi,d3.1,d3.2,d4.1,d4.2,qC0,aD hi hN,dK (show v.2.2.length+1≤1000000000 by omega) (by decide:8≤100000)]
    ·simp only[sS,bE]
   ·have l1:(ks.map fun k=>(gG s k label true).mem).length=ks.length:=by simp
    generalize hA:(ks.map fun k=>(gG s k label true).mem)=A at l1
    generalize hB:(ks.map fun k=>(gG s k label false).mem)=Bm
    generalize hW:ks.map (qC0 s label)=W
    have hs:=zCc mem (least:=A) (want:=W) (most:=Bm) (by omega)
    have eP:qDE mem A W Bm=pW s label mem ks:=by unfold pW;rw[hA,hB,hW]
    have hPl:=qTv s label mem ks
    have e1:@aO Int 0 (0+A.length) A=A:=by rw[dm];exact eB _
    have e2:@aO Int 0 (0+Bm.length) Bm=Bm:=by rw[dm];exact eB _
    have e3:@aO Int 0 (0+W.length) W=W:=by rw[dm];exact eB _
    simp only[e1,e2,e3]
    refine aH (by simp only[dm,fI,fq]) (aH (by simp only[dm,fI,fq]) (aH (by simp only[dm,fI,fq]) (aH hs.1 ?_)))
    rw[hs.2,eP]
    refine qIh ks.length (fun i (v:List Sh)=>(v,i,())) (fun out i=>out++uK s label n (ks.getD i []) ((pW s label mem ks).getD i 0)) (fun v=>(v,())) (fun i v=>v.length≤i*16 ^ n) (fun i v hi hI=>⟨?_,aF ?_⟩) (fun v hI=>aF ?_) (b0:=[]) (cz _)
    ·have:= (ih _ (bL (d:=[]) hi) ((pW s label mem ks).getD i 0)).2
     show(v++uK s label n _ _).length≤_
     rw[dh,jd]
     have hI:v.length≤i*16 ^ n:=hI
     omega
    ·have hI:v.length≤i*16 ^ n:=hI
     obtain⟨⟨i1,i2⟩,i3⟩:=ih _ (bL (d:=[]) hi) ((pW s label mem ks).getD i 0)
     have hb:i*16 ^ n≤16*1048576:=o5 (by omega) hp
     have hfit:aT (v.length+(uK s label n (ks.getD i []) ((pW s label mem ks).getD i 0)).length) 24=true:=dK (by omega) (by decide)
     have hi2:i<(pW s label mem ks).length:=by omega
     simp only[sS,bB hi,bB hi2,aY hi,aD hi hN,i1,i2,hfit]
    ·simp only[sS,bE]
  ·unfold uK
   rw[hks]
   cases hz:(ks.length:Int)==0 with
   | true=>simp only[cond_true,gz];exact Nat.one_le_pow _ _ (by decide)
   | false =>
    simp only[cond_false]
    refine bq (qCz (fun i=>uK s label n (ks.getD i []) ((pW s label mem ks).getD i 0)) (16 ^ n) _ _ fun i hi=>(ih _ (bL (d:=[]) (by simpa using hi)) _).2) ?_
    rw[gq,dm,ui,Nat.pow_succ,p9 (16 ^ n)]
    exact o5 hkl (df _)
end Go.Proofs.YtlmkakccmpncjaaGreatDoor
