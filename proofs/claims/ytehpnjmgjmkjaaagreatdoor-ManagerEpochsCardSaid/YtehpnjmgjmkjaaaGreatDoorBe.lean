/- Part of the proof. No conditions. -/
import Derived.Test.YtehpnjmgjmkjaaaGreatDoorBd
namespace Go.Proofs.YtehpnjmgjmkjaaaGreatDoor
open Go Go.W Go.Proofs
open Go.W.DT (ret need br bad loop join)
set_option maxRecDepth 100000
def qAb(l:List Pn)(total:Vec)(p:Pn)(long:Int)(best t:Int):Int :=
 bif decide (t≥p.start)&&decide (t≤1000000)&&decide (w64 (t+long)≤p.stop)&&(decide (best<0)||decide (t<best))&&qQt l total p t long then t else best
def qIE(l:List Pn)(total:Vec)(p:Pn)(long:Int):Int×Int×Unit :=
 bif decide (long<1)||decide (long>1000)||decide (p.start<0)||decide (p.start>1000000)||decide (p.stop<0)||decide (p.stop>1000000)||!(decide (p.need.mem≥0)&&decide (p.need.mem≤1073741824))||!(decide (p.need.cores≥0)&&decide (p.need.cores≤1073741824)) then(0,1,())
 else let best:=(p.start::l.map (·.stop)).foldl (qAb l total p long) (-1)
  bif decide (best<0) then(0,16,()) else(best,0,())
theorem zAL{l:List Pn}(total:Vec)(p:Pn)(long:Int)(hn:l.length≤1000000000):qAJ l total p long=true∧kP l total p long=qIE l total p long:=zA0 (by
 unfold qOd qIE
 cases decide (long<1)
 case true=>rfl
 cases decide (long>1000)
 case true=>rfl
 cases decide (p.start<0)
 case true=>rfl
 cases decide (p.start>1000000)
 case true=>rfl
 cases decide (p.stop<0)
 case true=>rfl
 cases decide (p.stop>1000000)
 case true=>rfl
 cases decide (p.need.mem≥0)
 case false=>rfl
 cases decide (p.need.mem≤1073741824)
 case false=>rfl
 cases decide (p.need.cores≥0)
 case false=>rfl
 cases decide (p.need.cores≤1073741824)
 case false=>rfl
 refine bN rfl (bN rfl (bN rfl (bN rfl (bN rfl (bN rfl (fQ rfl (bN rfl (fQ rfl (bN rfl ?_)))))))))
 simp only[Bool.or_self,Bool.and_self,Bool.not_true,cond_false]
 have hL:(p.start::l.map (·.stop)).length=l.length+1:=by simp
 have hg:∀i:Nat,i<l.length→(p.start::l.map (·.stop)).getD (i+1) 0=(l.getD i dPn).stop:=by
  intro i hi
  simp[List.getD,hi]
 generalize hLL:(p.start::l.map (·.stop))=L at hL hg
 have h0:L.getD 0 0=p.start:=by rw[←hLL];rfl
 refine aT (L.foldl (qAb l total p long) (-1),()) (pV L 0 (fun i (b:Int)=>(b,i-1,())) (qAb l total p long) (fun b=>Sum.inl (b,())) (fun _ _=>True) (fun i b hi _=>⟨trivial,?_⟩) (fun b _=>?_) (b0:=-1) trivial) (aF ?_)
 ·have hq:=zEV total p (L.getD i 0) long hn
  have e1:decide ((i:Int)-1<(l.length:Int))=true:=by simp;omega
  have e2:w64 ((i:Int)-1+1)=((i+1:Nat):Int)-1:=by rw[fE]<;>omega
  have e3:∀{ρ:Type},(DT.run (br (decide ((i:Int)-1≥0)) (need (ixB ((i:Int)-1) (l.length:Int)) (ret (Sum.inl ((l.getD (Int.toNat ((i:Int)-1)) dPn).stop,()):(Int×Unit) ⊕ ρ))) (ret (Sum.inl (p.start,())))))=some (Sum.inl (L.getD i 0,())):=by
   intro ρ
   cases i with
   | zero=>rw[h0];rfl
   | succ i =>
    have hi2:i<l.length:=by omega
    have f1:((i+1:Nat):Int)-1=(i:Int):=by omega
    rw[f1,hg i hi2]
    simp only[sS,bG hi2,qCa,ge_iff_le]
  refine fQ e1 (aT (qAb l total p long b (L.getD i 0),()) (aT (L.getD i 0,()) (aF e3) (aF ?_)) (aF (by simp only[sS,e2])))
  simp only[fC,dN,dE,hq.1,hq.2,qAb,cond_true]
  cases decide (L.getD i 0≥p.start)<;>(try rfl)
  cases decide (L.getD i 0≤1000000)<;>(try rfl)
  cases decide (w64 (L.getD i 0+long)≤p.stop)<;>(try rfl)
  cases decide (b<0)<;>(try rfl)<;>cases decide (L.getD i 0<b)<;>(try rfl)<;>cases qQt l total p (L.getD i 0) long<;>rfl
 ·have e1:decide ((L.length:Int)-1<(l.length:Int))=false:=by simp;omega
  exact aF (by simp only[sS,e1])
 ·simp only[sS]
  cases decide (L.foldl (qAb l total p long) (-1)<0)<;>rfl)
def pX(id:Int)(l:List Pn):Nat:=(List.range l.length).foldl (fun k i=>bif decide ((l.getD i dPn).id<id) then i+1 else k) 0
def qL4(s:Se)(p:Pn)(long:Int):Se×Int×Int×Unit :=
 bif decide (p.id<0)||decide (p.id>999)||decide (p.label<0)||decide (p.label≥(s.conf.labels.length:Int))||(p.need.mem==0&&p.need.cores==0) then(s,0,1,())
 else bif s.plans.any (·.id==p.id) then(s,0,7,())
 else bif decide ((s.plans.length:Int)≥12) then(s,0,4,())
 else bif decide (p.start<s.now) then(s,0,15,())
 else let r:=qIE s.plans (dJ s p.label) p long
  bif r.2.1 != 0 then(s,0,r.2.1,())
  else({ s with plans:=(s.plans.take (pX p.id s.plans)++[⟨p.id,p.label,r.1,w64 (r.1+long),p.need⟩])++s.plans.drop (pX p.id s.plans) },r.1,0,())
theorem dK{β:Type}(f:β→Nat→β)(b:β)(n:Nat):(List.range (n+1)).foldl f b=f ((List.range n).foldl f b) n:=by
 rw[List.range_succ,List.foldl_append];rfl
theorem zAM(id:Int)(l:List Pn):pX id l≤l.length:=by
 unfold pX
 have: ∀n,n≤l.length→(List.range n).foldl (fun k i=>bif decide ((l.getD i dPn).id<id) then i+1 else k) 0≤n:=by
  intro n
  induction n with
  | zero=>intro _;exact Nat.le_refl 0
  | succ n ih =>
   intro h
   rw[dK]
   have:= ih (by omega)
   cases decide ((l.getD n dPn).id<id) with
   | true=>exact Nat.le_refl _
   | false=>exact Nat.le_succ_of_le this
 exact this _ (Nat.le_refl _)
theorem zHH{s:Se}(p:Pn)(long:Int)(h:dV s)(hn:s.plans.length≤900000000):qFy s p long=true∧qDd s p long=qL4 s p long:=zHw (by
 unfold qYi qL4
 cases decide (p.id<0)
 case true=>rfl
 cases decide (p.id>999)
 case true=>rfl
 cases decide (p.label<0)
 case true=>rfl
 cases decide (p.label≥(s.conf.labels.length:Int))
 case true=>rfl
 refine bN rfl (bN rfl (bN rfl (bN rfl ?_)))
 have e00:(p.need.mem==0&&(p.need.cores==0&&true))=(p.need.mem==0&&p.need.cores==0):=by rw[Bool.and_true]
 rw[e00]
 simp only[Bool.or_self,Bool.false_or,aN]
 cases p.need.mem==0&&p.need.cores==0
 case true=>rfl
 refine bN rfl ?_
 simp only[cond_false]
 have hN:=h.plans
 cases hany:s.plans.any (·.id==p.id) with
 | true =>
  refine rQ ?_
  refine qVW s.plans.length (fun i=>((((List.range i.toNat).foldl (fun k i=>bif decide ((s.plans.getD i dPn).id<p.id) then i+1 else k) 0:Nat):Int),i,())) (fun i=>∀j,j<i→((s.plans.getD j dPn).id==p.id)=false) (fun i hi hI=>?_) (fun hI=>?_) (i0:=0) (fun j hj=>by omega) (Nat.zero_le _)
  ·cases hc:(s.plans.getD i dPn).id==p.id with
   | true=>right;refine aF ?_;simp only[sS,bG hi,bF hi,hc]
   | false =>
    left
    refine⟨fun j hj=>?_,aF ?_⟩
    ·rcases Nat.lt_or_ge j i with g | g
     ·exact hI j g
     ·have: j=i:=by omega
      subst this;exact hc
    ·simp only[sS,bG hi,bF hi,hc,aG hi hN,dK]
     cases decide ((s.plans.getD i dPn).id<p.id)<;>rfl
  ·rw[List.any_eq_true] at hany
   obtain⟨x,hx,hxe⟩:=hany
   obtain⟨j,hj,e⟩:=List.getElem_of_mem hx
   have:= hI j hj
   simp[List.getD,hj,e] at this
   simp at hxe
   exact(this hxe).elim
 | false =>
  have hno:∀i,i<s.plans.length→((s.plans.getD i dPn).id==p.id)=false:=by
   intro i hi
   rw[List.any_eq_false] at hany
   simpa using hany _ (bT hi)
  refine aT ((pX p.id s.plans:Int),()) ?_ ?_
  ·refine qVW s.plans.length (fun i=>((((List.range i.toNat).foldl (fun k i=>bif decide ((s.plans.getD i dPn).id<p.id) then i+1 else k) 0:Nat):Int),i,())) (fun _=>True) (fun i hi _=>.inl ⟨trivial,aF ?_⟩) (fun _=>aF ?_) (i0:=0) trivial (Nat.zero_le _)
   ·simp only[sS,bG hi,bF hi,hno i hi,aG hi hN,dK]
    cases decide ((s.plans.getD i dPn).id<p.id)<;>rfl
   ·simp only[sS,bM,pX]
  ·have hk:=zAM p.id s.plans
   have hq:=zAL (dJ s p.label) p long hN
   simp only[cond_false]
   cases decide ((s.plans.length:Int)≥12)
   case true=>rfl
   cases decide (p.start<s.now)
   case true=>rfl
   refine bN rfl (bN rfl (bB (aO.2 h) (bB hq.1 ?_)))
   rw[hq.2]
   simp only[cond_false]
   generalize qIE s.plans (dJ s p.label) p long=r
   cases hr:r.2.1 != 0 with
   | true=>exact aF (by simp only[sS])
   | false =>
   refine bN rfl ?_
   refine aT (s.plans.take (pX p.id s.plans),()) (aF (zKg hk hN (by decide))) ?_
   refine aT (s.plans.take (pX p.id s.plans)++[⟨p.id,p.label,r.1,w64 (r.1+long),p.need⟩],()) (aF (zAJ (by rw[List.length_take];omega) (by decide))) ?_
   have hl3:(s.plans.take (pX p.id s.plans)++[(⟨p.id,p.label,r.1,w64 (r.1+long),p.need⟩:Pn)]).length+(s.plans.drop (pX p.id s.plans)).length≤1000000000:=by
    simp only[List.length_append,List.length_take,List.length_drop,List.length_cons,List.length_nil];omega
   generalize s.plans.take (pX p.id s.plans)++[(⟨p.id,p.label,r.1,w64 (r.1+long),p.need⟩:Pn)]=xs at hl3 ⊢
   refine aF ?_
   have e3:List.take (xs.length+(s.plans.drop (pX p.id s.plans)).length) (xs++s.plans.drop (pX p.id s.plans))=xs++s.plans.drop (pX p.id s.plans):=by rw[←List.length_append,List.take_length]
   simp only[sS,vP,zFf hk,eF hl3 (by decide:48≤100000),e3])
def lo2(a b:Int):Int:=if b<a then b else a
def n16(least want most:List Int):Nat:=min (min least.length want.length) most.length
def x16(least want most:List Int)(left:Int)(i:Nat):Int:=lo2 (lo2 (lo2 (rA (least.getD i 0)) (rA (want.getD i 0))) (rA (most.getD i 0))) left
def wE(least want most:List Int)(v:List Int×Int)(i:Nat):List Int×Int:=(v.1++[x16 least want most v.2 i],w64 (v.2-x16 least want most v.2 i))
def y16(want most:List Int)(v:List Int×Int)(i:Nat):Int :=
 lo2 (if 0>w64 (lo2 (rA (want.getD i 0)) (rA (most.getD i 0))-v.1.getD i 0) then 0 else w64 (lo2 (rA (want.getD i 0)) (rA (most.getD i 0))-v.1.getD i 0)) v.2
def qAc(want most:List Int)(v:List Int×Int)(i:Nat):List Int×Int:=(v.1.set i (w64 (v.1.getD i 0+y16 want most v i)),w64 (v.2-y16 want most v i))
def qDu(total:Int)(least want most:List Int):List Int :=
 ((List.range (n16 least want most)).foldl (qAc want most) ((List.range (n16 least want most)).foldl (wE least want most) ([],rA total))).1
theorem qFA(least want most:List Int)(n:Nat)(v:List Int×Int):((List.range n).foldl (wE least want most) v).1.length=v.1.length+n:=by
 induction n with
 | zero=>rfl
 | succ n ih=>rw[dK];simp only[wE,List.length_append,List.length_singleton,ih];omega
theorem qQv(want most:List Int)(n:Nat)(v:List Int×Int):((List.range n).foldl (qAc want most) v).1.length=v.1.length:=by
 induction n with
 | zero=>rfl
 | succ n ih=>rw[dK];simp only[qAc,List.length_set,ih]
theorem qTD(total:Int)(least want most:List Int):(qDu total least want most).length=n16 least want most:=by
 unfold qDu
 rw[qQv,qFA]
 simp
theorem qHS{β σ ρ:Type}(n:Nat)(enc:Int→β→σ){body:σ→DT (σ ⊕ ρ)}(f:β→Nat→β)(fin:β→ρ)(I:Nat→β→Prop)
  (hstep:∀(i:Nat) (b:β),i<n→I i b→I (i+1) (f b i)∧(body (enc (i:Int) b)).G (.inl (enc ((i+1:Nat):Int) (f b i))))
  (hend:∀b,I n b→(body (enc (n:Int) b)).G (.inr (fin b))) {b0:β} (h0:I 0 b0):(DT.loop (enc 0 b0) body).G (fin ((List.range n).foldl f b0)):=by
 have key:∀i:Nat,i≤n→I i ((List.range i).foldl f b0)→∀k,n-i<k→DT.qAw (fun s y=>(body s).G y) k (enc (i:Int) ((List.range i).foldl f b0)) (fin ((List.range n).foldl f b0)):=by
  intro i hi hI k
  induction k generalizing i with
  | zero=>intro h;omega
  | succ k ih =>
   intro hk
   rcases Nat.lt_or_ge i n with h | h
   ·obtain⟨h1,h2⟩:=hstep i _ h hI
    rw[←dK f b0 i] at h1 h2
    exact⟨_,h2,ih (i+1) (by omega) h1 (by omega)⟩
   ·have e:i=n:=by omega
    subst e
    exact⟨_,hend _ hI,rfl⟩
 exact DT.qN.2 ⟨_,key 0 (Nat.zero_le _) h0 (n+1) (by omega)⟩
theorem zAN(total:Int){least want most:List Int}(h1:least.length≤1000000000):qAF total least want most=true∧mU total least want most=(qDu total least want most,()):=zAx (by
 unfold qOa
 refine bB (sW _).1 ?_
 rw[(sW _).2]
 have hN:(if(most.length:Int)<if(want.length:Int)<(least.length:Int) then(want.length:Int) else(least.length:Int) then(most.length:Int) else if(want.length:Int)<(least.length:Int) then(want.length:Int) else(least.length:Int))=(n16 least want most:Int):=by
  unfold n16;grind
 have hn1:n16 least want most≤least.length:=by unfold n16;omega
 have hn2:n16 least want most≤want.length:=by unfold n16;omega
 have hn3:n16 least want most≤most.length:=by unfold n16;omega
 rw[hN]
 unfold qDu
 generalize n16 least want most=n at hN hn1 hn2 hn3 ⊢
 refine aT (_,_,()) (qHS n (fun i (v:List Int×Int)=>(v.1,v.2,i,())) (wE least want most) (fun v=>Sum.inl (v.1,v.2,())) (fun i v=>v.1.length=i) (fun i v hi hI=>⟨?_,?_⟩) (fun v hI=>aF ?_) (b0:=([],rA total)) rfl) ?_
 ·simp[wE];exact hI
 ·have hI:v.1.length=i:=hI
  have g1:i<least.length:=by omega
  have g2:i<want.length:=by omega
  have g3:i<most.length:=by omega
  refine fQ (bF hi) (bB (bG g1) (bB (sW _).1 (bB (bG g2) (bB (sW _).1 (bB (bG g3) (bB (sW _).1 ?_))))))
  simp only[Int.toNat_natCast,(sW _).2]
  refine aT (v.1++[x16 least want most v.2 i],()) (aF (zAJ (by omega) (by decide))) (aF ?_)
  simp only[sS,aG g1 h1,wE]
  rfl
 ·simp only[sS,bM]
 ·have hl0:=qFA least want most n ([],rA total)
  generalize (List.range n).foldl (wE least want most) ([],rA total)=v0 at hl0 ⊢
  have hl0:v0.1.length=n:=by simpa using hl0
  refine qHS n (fun i (v:List Int×Int)=>(v.2,i,v.1,())) (qAc want most) (fun v=>(v.1,())) (fun i v=>v.1.length=n) (fun i v hi hI=>⟨?_,aF ?_⟩) (fun v hI=>aF ?_) (b0:=v0) hl0
  ·simp[qAc];exact hI
  ·have hI:v.1.length=n:=hI
   have g2:i<want.length:=by omega
   have g3:i<most.length:=by omega
   have g4:i<v.1.length:=by omega
   have g5:i<v0.1.length:=by omega
   simp only[sS,qCa,bF hi,bF g5,qCe g4,bG g2,bG g3,aG hi (show n≤1000000000 by omega),(sW _).1,(sW _).2,qAc]
   rfl
  ·have hI:v.1.length=n:=hI
   have e:Nat.ble v0.1.length v.1.length=true:=qGw.2 (by omega)
   have e2:List.take v0.1.length v.1=v.1:=List.take_of_length_le (by omega)
   simp only[sS,bM,e,e2])
def Deep(c:Cf):Nat→B→Prop
 | 0,_=>False
 | n+1,p=>∀k∈bO c p,Deep c n k
def iJ(s:Se)(label:Int):Nat→B→List B
 | 0,_=>[]
 | n+1,p=>bif ((nH s p label).length:Int)==0 then[p] else(nH s p label).foldl (fun out k=>out++iJ s label n k) []
theorem qL5{s:Se}{path k:B}{label:Int}(h:k∈nH s path label):k∈bO s.conf path:=by
 unfold nH at h
 have: ∀(l:List B) (v:List B),∀b∈l.foldl (fun out a=>qD6 (fun b=>!kX s a b label) a out) v,b∈v∨b∈l:=by
  intro l
  induction l with
  | nil=>intro v b hb;exact .inl hb
  | cons a l ih =>
   intro v b hb
   rcases ih _ b hb with e | e
   ·rcases qL3 e with e | e
    ·exact .inr (by rw[e];exact List.mem_cons_self)
    ·exact .inl e
   ·exact .inr (List.mem_cons_of_mem _ e)
 rcases this _ _ _ h with e | e
 ·cases e
 ·exact e
theorem qVY(s:Se)(path:B)(label:Int):(nH s path label).length=(bO s.conf path).length:=by
 unfold nH
 have: ∀(l:List B) (v:List B),(l.foldl (fun out a=>qD6 (fun b=>!kX s a b label) a out) v).length=v.length+l.length:=by
  intro l
  induction l with
  | nil=>intro v;rfl
  | cons a l ih=>intro v;rw[List.foldl,ih,qCi,List.length_cons];omega
 rw[this];simp
theorem qCj{α β:Type}(g:α→List β)(M:Nat):∀(l:List α) (v:List β),(∀a∈l,(g a).length≤M)→(l.foldl (fun out k=>out++g k) v).length≤v.length+l.length*M
 | [],v,_=>by simp
 | a::l,v,h=>by
  rw[List.foldl]
  refine Nat.le_trans (qCj g M l _ fun b hb=>h b (List.mem_cons_of_mem _ hb)) ?_
  have:= h a List.mem_cons_self
  rw[List.length_append,List.length_cons,Nat.succ_mul]
  omega
theorem qTE{s:Se}(label:Int)(h:dV s)(hu:qGW s.conf)(hq:s.conf.queues.length≤16):∀(n:Nat) (path:B),n≤6→Deep s.conf n path→∀fu,n≤fu→(pQ fu s path label=true∧sP fu s path label=(iJ s label n path,()))∧(iJ s label n path).length≤16 ^ n
 | 0,path,_,hd,_,_=>hd.elim
 | n+1,path,hn,hd,0,hf=>by omega
 | n+1,path,hn,hd,fu+1,hf=>by
  have hk:=zFj (path:=path) label h hu (by omega)
  have hkl:(nH s path label).length≤16:=by rw[qVY];exact Nat.le_trans (qGX _ _) hq
  have ih:∀k∈nH s path label,(pQ fu s k label=true∧sP fu s k label=(iJ s label n k,()))∧(iJ s label n k).length≤16 ^ n:=fun k hkm=>qTE label h hu hq n k (by omega) (hd k (qL5 hkm)) fu (by omega)
  have hp:16 ^ n≤1048576:=by
   have: 16 ^ n≤16 ^ 5:=Nat.pow_le_pow_right (by decide) (by omega)
   exact this
  refine⟨qVR ?_,?_⟩
  ·unfold qEq
   refine bB hk.1 ?_
   rw[hk.2]
   unfold iJ
   cases hz:((nH s path label).length:Int)==0 with
   | true=>exact fQ rfl rfl
   | false =>
   refine bN rfl ?_
   simp only[cond_false]
   refine pV (nH s path label) [] (fun i (v:List B)=>(v,i,())) (fun out k=>out++iJ s label n k) (fun v=>(v,())) (fun i v=>v.length≤i*16 ^ n) (fun i v hi hI=>⟨?_,aF ?_⟩) (fun v hI=>aF ?_) (b0:=[]) (Nat.zero_le _)
   ·have:= (ih _ (bT (d:=[]) hi)).2
    show(v++iJ s label n _).length≤_
    rw[List.length_append,Nat.succ_mul]
    have hI:v.length≤i*16 ^ n:=hI
    omega
   ·have hI:v.length≤i*16 ^ n:=hI
    obtain⟨⟨i1,i2⟩,i3⟩:=ih _ (bT (d:=[]) hi)
    have hb:i*16 ^ n≤16*1048576:=Nat.mul_le_mul (by omega) hp
    have hfit:aX (v.length+(iJ s label n ((nH s path label).getD i [])).length) 16=true:=eF (by omega) (by decide)
    simp only[sS,bG hi,bF hi,aG hi (show(nH s path label).length≤1000000000 by omega),i1,i2,hfit]
   ·simp only[sS,bM]
  ·unfold iJ
   cases hz:((nH s path label).length:Int)==0 with
   | true=>simp only[cond_true,List.length_singleton];exact Nat.one_le_pow _ _ (by decide)
   | false =>
    simp only[cond_false]
    refine Nat.le_trans (qCj _ (16 ^ n) _ _ fun k hkm=>(ih k hkm).2) ?_
    rw[List.length_nil,Nat.zero_add,Nat.pow_succ,Nat.mul_comm (16 ^ n)]
    exact Nat.mul_le_mul hkl (Nat.le_refl _)
def qCk(s:Se)(label:Int)(k:B):Int:=w64 ((gV s k label true 0).mem+(qY s k label).mem)
def pY(s:Se)(label mem:Int)(ks:List B):List Int:=qDu mem (ks.map fun k=>(gM s k label true).mem) (ks.map (qCk s label)) (ks.map fun k=>(gM s k label false).mem)
def tT(s:Se)(label:Int):Nat→B→Int→List Sh
 | 0,_,_=>[]
 | n+1,p,mem=>bif ((bO s.conf p).length:Int)==0 then[⟨p,mem⟩] else
  (List.range (bO s.conf p).length).foldl (fun out i=>out++tT s label n ((bO s.conf p).getD i []) ((pY s label mem (bO s.conf p)).getD i 0)) []
theorem qTF(s:Se)(label mem:Int)(ks:List B):(pY s label mem ks).length=ks.length:=by
 unfold pY
 rw[qTD]
 unfold n16
 simp
theorem qOz{α:Type}(f g w:α→Int):∀(l:List α) (v:List Int×List Int×List Int),l.foldl (fun v k=>(v.1++[f k],v.2.1++[g k],v.2.2++[w k])) v=(v.1++l.map f,v.2.1++l.map g,v.2.2++l.map w)
 | [],v=>by simp
 | a::l,v=>by rw[List.foldl,qOz f g w l];simp
theorem qVZ{s:Se}(label:Int)(h:dV s)(hu:qGW s.conf)(hq:s.conf.queues.length≤16):∀(n:Nat) (path:B) (mem:Int),n≤6→Deep s.conf n path→∀fu,n≤fu→(wB fu s path label mem=true∧zW fu s path label mem=(tT s label n path mem,()))∧(tT s label n path mem).length≤16 ^ n
 | 0,path,mem,_,hd,_,_=>hd.elim
 | n+1,path,mem,hn,hd,0,hf=>by omega
 | n+1,path,mem,hn,hd,fu+1,hf=>by
  have hc:CfN 1000000000 s.conf:=⟨h.labels,h.queues,h.qu⟩
  have hkl:(bO s.conf path).length≤16:=Nat.le_trans (qGX _ _) hq
  have hpl:∀k∈bO s.conf path,k.length≤1000000000:=by
   intro k hk
   obtain⟨_,_,q,hq,rfl⟩:=rE hk
   exact(h.qu q hq).2
  have ih:∀k∈bO s.conf path,∀m,(wB fu s k label m=true∧zW fu s k label m=(tT s label n k m,()))∧(tT s label n k m).length≤16 ^ n:=fun k hkm m=>qVZ label h hu hq n k m (by omega) (hd k hkm) fu (by omega)
  have hp:16 ^ n≤1048576:=by
   have: 16 ^ n≤16 ^ 5:=Nat.pow_le_pow_right (by decide) (by omega)
   exact this
  generalize hks:bO s.conf path=ks at hkl hpl ih
  have hN:ks.length≤1000000000:=by omega
  refine⟨zE7 ?_,?_⟩
  ·unfold qLm
   refine bB (kW.2 hc) ?_
   simp only[aN]
   unfold tT
   rw[hks]
   cases hz:(ks.length:Int)==0 with
   | true=>exact fQ rfl rfl
   | false =>
   refine bN rfl ?_
   simp only[cond_false]
   refine aT (ks.map (fun k=>(gM s k label true).mem),ks.map (fun k=>(gM s k label false).mem),ks.map (qCk s label),()) ?_ ?_
   ·have e:=qOz (fun k=>(gM s k label true).mem) (fun k=>(gM s k label false).mem) (qCk s label) ks ([],[],[])
    simp only[List.nil_append] at e
    have e':(Sum.inl (ks.map (fun k=>(gM s k label true).mem),ks.map (fun k=>(gM s k label false).mem),ks.map (qCk s label),()):(List Int×List Int×List Int×Unit) ⊕ (List Sh×Unit))=(fun v:List Int×List Int×List Int=>Sum.inl (v.1,v.2.1,v.2.2,())) (ks.foldl (fun v k=>(v.1++[(gM s k label true).mem],v.2.1++[(gM s k label false).mem],v.2.2++[qCk s label k])) ([],[],[])):=by rw[e]
    rw[e']
    refine pV ks [] (fun i (v:List Int×List Int×List Int)=>(v.1,v.2.1,v.2.2,i,())) (fun v k=>(v.1++[(gM s k label true).mem],v.2.1++[(gM s k label false).mem],v.2.2++[qCk s label k])) (fun v=>Sum.inl (v.1,v.2.1,v.2.2,())) (fun i v=>v.1.length=i∧v.2.1.length=i∧v.2.2.length=i) (fun i v hi hI=>⟨?_,?_⟩) (fun v hI=>aF ?_) (b0:=([],[],[])) ⟨rfl,rfl,rfl⟩
    ·simp;exact hI
    ·obtain⟨i1,i2,i3⟩:=hI
     have hk1:=hpl _ (bT (d:=[]) hi)
     have d1:=xH label true h hu hk1
     have d2:=xH label false h hu hk1
     have d3:=nP (ks.getD i []) label true 0 h
     have d4:=qHQ (ks.getD i []) label h
     refine fQ (bF hi) (aT (v.1++[(gM s (ks.getD i []) label true).mem],()) (aF ?_) (aT (v.2.1++[(gM s (ks.getD i []) label false).mem],()) (aF ?_) (aF ?_)))
     ·simp only[sS,bG hi,d1.1,d1.2,eF (show v.1.length+1≤1000000000 by omega) (by decide:8≤100000)]
     ·simp only[sS,bG hi,d2.1,d2.2,eF (show v.2.1.length+1≤1000000000 by omega) (by decide:8≤100000)]
     ·simp only[sS,bG hi,d3.1,d3.2,d4.1,d4.2,qCk,aG hi hN,eF (show v.2.2.length+1≤1000000000 by omega) (by decide:8≤100000)]
    ·simp only[sS,bM]
   ·have l1:(ks.map fun k=>(gM s k label true).mem).length=ks.length:=by simp
    generalize hA:(ks.map fun k=>(gM s k label true).mem)=A at l1
    generalize hB:(ks.map fun k=>(gM s k label false).mem)=Bm
    generalize hW:ks.map (qCk s label)=W
    have hs:=zAN mem (least:=A) (want:=W) (most:=Bm) (by omega)
    have eP:qDu mem A W Bm=pY s label mem ks:=by unfold pY;rw[hA,hB,hW]
    have hPl:=qTF s label mem ks
    have e1:@aH Int 0 (0+A.length) A=A:=by rw[Nat.zero_add];exact gL _
    have e2:@aH Int 0 (0+Bm.length) Bm=Bm:=by rw[Nat.zero_add];exact gL _
    have e3:@aH Int 0 (0+W.length) W=W:=by rw[Nat.zero_add];exact gL _
    simp only[e1,e2,e3]
    refine bB (by simp only[Nat.zero_add,nN,Bool.and_true]) (bB (by simp only[Nat.zero_add,nN,Bool.and_true]) (bB (by simp only[Nat.zero_add,nN,Bool.and_true]) (bB hs.1 ?_)))
    rw[hs.2,eP]
    refine qHS ks.length (fun i (v:List Sh)=>(v,i,())) (fun out i=>out++tT s label n (ks.getD i []) ((pY s label mem ks).getD i 0)) (fun v=>(v,())) (fun i v=>v.length≤i*16 ^ n) (fun i v hi hI=>⟨?_,aF ?_⟩) (fun v hI=>aF ?_) (b0:=[]) (Nat.zero_le _)
    ·have:= (ih _ (bT (d:=[]) hi) ((pY s label mem ks).getD i 0)).2
     show(v++tT s label n _ _).length≤_
     rw[List.length_append,Nat.succ_mul]
     have hI:v.length≤i*16 ^ n:=hI
     omega
    ·have hI:v.length≤i*16 ^ n:=hI
     obtain⟨⟨i1,i2⟩,i3⟩:=ih _ (bT (d:=[]) hi) ((pY s label mem ks).getD i 0)
     have hb:i*16 ^ n≤16*1048576:=Nat.mul_le_mul (by omega) hp
     have hfit:aX (v.length+(tT s label n (ks.getD i []) ((pY s label mem ks).getD i 0)).length) 24=true:=eF (by omega) (by decide)
     have hi2:i<(pY s label mem ks).length:=by omega
     simp only[sS,bG hi,bG hi2,bF hi,aG hi hN,i1,i2,hfit]
    ·simp only[sS,bM]
  ·unfold tT
   rw[hks]
   cases hz:(ks.length:Int)==0 with
   | true=>simp only[cond_true,List.length_singleton];exact Nat.one_le_pow _ _ (by decide)
   | false =>
    simp only[cond_false]
    refine Nat.le_trans (qCj (fun i=>tT s label n (ks.getD i []) ((pY s label mem ks).getD i 0)) (16 ^ n) _ _ fun i hi=>(ih _ (bT (d:=[]) (by simpa using hi)) _).2) ?_
    rw[List.length_nil,Nat.zero_add,List.length_range,Nat.pow_succ,Nat.mul_comm (16 ^ n)]
    exact Nat.mul_le_mul hkl (Nat.le_refl _)
end Go.Proofs.YtehpnjmgjmkjaaaGreatDoor
