/- Part of the proof. No conditions. -/
import Derived.Test.YtehpnjmgjmkjaaaGreatDoorBk
namespace Go.Proofs.YtehpnjmgjmkjaaaGreatDoor
open Go Go.W Go.Proofs
open Go.W.DT (ret need br bad loop join)
set_option maxRecDepth 100000
def nV(text:B):Int:=bif (fO text).2.1==0 then tO (fO text).1 else(fO text).2.1
def nR(s:Se)(text:B):Se×Ou×Unit :=
 bif nV text != 0 then(s,eOu (nV text),())
 else bif decide (((fO text).1.labels.length:Int)<(s.conf.labels.length:Int)) then(s,eOu 14,())
 else bif (List.range' 0 (s.conf.labels.length-0)).any (fun i=>!((fO text).1.labels.getD i []==s.conf.labels.getD i [])) then(s,eOu 14,())
 else bif s.apps.any (fun a=>live a&&!nA (fO text).1 a.queue) then(s,eOu 14,())
 else({ s with conf:=(fO text).1 },dOu,())
theorem qWr{s:Se}(text:B)(h:dV s):xC s text=true∧wC s text=nR s text:=qVP (by
 unfold qLo nR
 have hp:=zF3 text
 have hr:=qHZ text
 have hk:=zFy hr.n
 have hc:cfN 1000000000 (fO text).1=true:=kW.2 ⟨Nat.le_trans hr.labels (by decide),Nat.le_trans hr.queues (by decide),fun q hq=>⟨Nat.le_trans (hr.qu q hq).1 (by decide),Nat.le_trans (hr.qu q hq).2 (by decide)⟩⟩
 simp only[hp.1,hp.2,bH]
 refine aT (nV text,()) ?_ ?_
 ·unfold nV
  cases (fO text).2.1==0 with
  | true=>exact aF (by simp only[sS,hk.1,hk.2])
  | false=>exact aF rfl
 ·cases nV text != 0 with
  | true=>exact aF rfl
  | false =>
  simp only[fI,cond_false]
  cases hl:decide (((fO text).1.labels.length:Int)<(s.conf.labels.length:Int)) with
  | true=>exact aF rfl
  | false =>
  have hl:s.conf.labels.length≤(fO text).1.labels.length:=by simp at hl;omega
  simp only[fI,cond_false]
  have hn:=h.labels
  have ha:=h.apps
  generalize (fO text).1=c at hl hc ⊢
  refine qCt 0 s.conf.labels.length (fun i=>(i,())) (fun i=>!(c.labels.getD i []==s.conf.labels.getD i [])) (s,eOu 14,()) _ (fun i _ hi=>?_) (fun i a b _=>?_)
  ·refine aF ?_
   simp only[sS,bF hi,bG hi,bG (Nat.lt_of_lt_of_le hi hl),aG hi hn]
   cases c.labels.getD i []==s.conf.labels.getD i []<;>rfl
  ·have hi:=b (Nat.zero_le _)
   subst hi
   simp only[bM,fI]
   have e:∀q:Bool,(Sum.inr (bif q then(s,eOu 14,()) else({ s with conf:=c },dOu,())):(Int×Unit) ⊕ (Se×Ou×Unit))=(fun q=>Sum.inr (bif q then(s,eOu 14,()) else({ s with conf:=c },dOu,()))) q:=fun _=>rfl
   refine qHP s.apps dAp (fun i=>(i,())) (fun a=>live a&&!nA c a.queue) (fun q=>Sum.inr (bif q then(s,eOu 14,()) else({ s with conf:=c },dOu,()))) (fun i hi=>?_) ?_
   ·have hq:=lY (s.apps.getD i dAp)
    simp only[sS,bF hi,bG hi,aG hi ha,hq.1,hq.2,hc,aN]
    cases live (s.apps.getD i dAp)<;>cases nA c (s.apps.getD i dAp).queue<;>rfl
   ·simp only[sS,bM])
structure qCz(b:Nat)(s:Se):Prop where
 keep:bI b (s.conf,s.epoch) s
theorem bI.fine{b:Nat}{c:CfE}{s:Se}(h:bI b c s):qCz b s:=⟨⟨h.pot,rfl,rfl,h.gd,h.tidy⟩⟩
theorem qCz.le{b d:Nat}{s:Se}(h:qCz b s)(hb:b≤d):qCz d s:=⟨h.keep.le hb⟩
theorem qCz.ok{b:Nat}{s:Se}(h:qCz b s)(hb:b≤1000000000):dV s:=h.keep.pot.ok hb
theorem qM3{b:Nat}{s:Se}(text:B)(h:qCz b s):qCz (b+2000) (nR s text).1:=by
 unfold nR
 cases he:nV text != 0 with
 | true=>exact h.le (by omega)
 | false =>
 cases decide (((fO text).1.labels.length:Int)<(s.conf.labels.length:Int)) with
 | true=>exact h.le (by omega)
 | false =>
 cases (List.range' 0 (s.conf.labels.length-0)).any (fun i=>!((fO text).1.labels.getD i []==s.conf.labels.getD i [])) with
 | true=>exact h.le (by omega)
 | false =>
 cases s.apps.any (fun a=>live a&&!nA (fO text).1 a.queue) with
 | true=>exact h.le (by omega)
 | false =>
  have hr:=qHZ text
  have hc:tO (fO text).1=0:=by
   have he:nV text=0:=by simpa using he
   unfold nV at he
   cases hz:(fO text).2.1==0 with
   | true=>rw[hz] at he;exact he
   | false=>rw[hz] at he;simp at he hz;exact absurd he hz
  have hg:=(qCw hc).1
  obtain⟨k,h1,h2⟩:=h.keep.pot
  have h1:=h1.le (Nat.le_add_right k 2000)
  refine⟨⟨⟨k+2000,⟨h1.1,h1.2,h1.3,h1.4,h1.5,Nat.le_trans hr.labels (by omega),Nat.le_trans hr.queues (by omega),h1.8,fun q hq=>⟨Nat.le_trans (hr.qu q hq).1 (by omega),Nat.le_trans (hr.qu q hq).2 (by omega)⟩,fun l hl=>Nat.le_trans (hr.lab l hl) (by omega)⟩,?_⟩,rfl,rfl,hg,h.keep.tidy.of rfl rfl⟩⟩
  show k+2000+s.conts.length≤b+2000
  omega
def mE(s:Se)(x:Ip):Se×Ou×Unit :=
 bif x.kind==1 then nR s x.text
 else bif x.kind==2 then((jK s x.node).1,eOu (jK s x.node).2,())
 else bif x.kind==3 then qLH s x
 else bif x.kind==4 then((lT s x.app).1,eOu (lT s x.app).2,())
 else bif x.kind==5 then qCr s x
 else bif x.kind==6 then((qAT s x.id 3).1,(qAT s x.id 3).2,())
 else bif x.kind==7 then((qAT s x.id 4).1,(qAT s x.id 4).2,())
 else bif x.kind==8 then qLJ s x.n
 else bif x.kind==9 then((qL4 s x.plan x.n).1,⟨(qL4 s x.plan x.n).2.2.1,[],[],[],(qL4 s x.plan x.n).2.1⟩,())
 else bif x.kind==10 then((vU s x.id).1,eOu (vU s x.id).2,())
 else bif x.kind==11 then(bif decide (s.epoch≥1048576) then(s,eOu 11,()) else({ s with epoch:=w64 (s.epoch+1),seq:=0 },dOu,()))
 else(s,eOu 3,())
structure qYA(x:Ip):Prop where
 ids:x.ids.length≤100000000
 asks:x.asks.length≤100000000
theorem qIa{b:Nat}{s:Se}(x:Ip)(h:qCz b s)(hb:b≤80000000):qCz (b+2000) (mE s x).1:=by
 have K:=h.keep
 unfold mE
 cases x.kind==1 with
 | true=>exact qM3 _ h
 | false =>
 cases x.kind==2 with
 | true=>exact(wF _ K).fine.le (by omega)
 | false =>
 cases x.kind==3 with
 | true=>exact(qCp _ K).fine.le (by omega)
 | false =>
 cases x.kind==4 with
 | true=>exact(yH _ K).fine.le (by omega)
 | false =>
 cases x.kind==5 with
 | true=>exact(yG _ K).fine.le (by omega)
 | false =>
 cases x.kind==6 with
 | true=>exact(pF _ _ K).fine.le (by omega)
 | false =>
 cases x.kind==7 with
 | true=>exact(pF _ _ K).fine.le (by omega)
 | false =>
 cases x.kind==8 with
 | true=>exact(qCq _ K (by omega)).fine.le (by omega)
 | false =>
 cases x.kind==9 with
 | true=>exact(qEy _ _ K).fine.le (by omega)
 | false =>
 cases x.kind==10 with
 | true=>exact(qCs _ K).fine.le (by omega)
 | false =>
 cases x.kind==11 with
 | false=>exact h.le (by omega)
 | true =>
 cases decide (s.epoch≥1048576) with
 | true=>exact h.le (by omega)
 | false =>
  obtain⟨k,h1,h2⟩:=K.pot
  exact qCz.le ⟨⟨⟨k,⟨h1.1,h1.2,h1.3,h1.4,h1.5,h1.6,h1.7,h1.8,h1.9,h1.10⟩,h2⟩,rfl,rfl,K.good,K.tidy.of rfl rfl⟩⟩ (show b≤b+2000 by omega)
theorem qTQ{b:Nat}{s:Se}{x:Ip}(h:qCz b s)(hb:b≤80000000)(hx:qYA x):zY s x=true∧zZ s x=mE s x:=zEI (by
 unfold qT0 mE
 have K:=h.keep
 have hO:=h.ok (show b≤1000000000 by omega)
 have hS:seN 1000000000 s=true:=uD.2 (K.sn.le (by omega))
 have q1:=qWr x.text hO
 have q3:=zFq K hb hx.ids
 have q5:=qWi K (show b≤100000000 by omega) hx.ids hx.asks
 have q6:=qT9 x.id 3 (K.sn.le (show b≤999999999 by omega))
 have q7:=qT9 x.id 4 (K.sn.le (show b≤999999999 by omega))
 have q8:=zFt x.n K (show b≤100000000 by omega)
 have q9:=zHH x.plan x.n hO (Nat.le_trans K.sn.plans (by omega))
 simp only[aO.2 hO,aN,hS,q1.1,q1.2,q3.1,q3.2,q5.1,q5.2,q6.1,q6.2,q7.1,q7.2,q8.1,q8.2,q9.1,q9.2]
 cases x.kind==1 with
 | true=>exact aF rfl
 | false =>
 cases x.kind==2 with
 | true=>exact aF rfl
 | false =>
 cases x.kind==3 with
 | true=>exact aF rfl
 | false =>
 cases x.kind==4 with
 | true=>exact aF rfl
 | false =>
 cases x.kind==5 with
 | true=>exact aF rfl
 | false =>
 cases x.kind==6 with
 | true=>exact aF rfl
 | false =>
 cases x.kind==7 with
 | true=>exact aF rfl
 | false =>
 cases x.kind==8 with
 | true=>exact aF rfl
 | false =>
 cases x.kind==9 with
 | true=>exact aF rfl
 | false =>
 cases x.kind==10 with
 | true=>exact aF rfl
 | false =>
 cases x.kind==11 with
 | false=>exact aF rfl
 | true =>
 cases decide (s.epoch≥1048576)<;>exact aF rfl)
def zF4(n:Nat):B:=[UInt8.ofNat (IntKind.u8.wrap (w64 (48+(n:Int)))).toNat]
def qFK(n:Nat):B:=if _h:10≤n then qFK (n / 10)++zF4 (n % 10) else zF4 n
termination_by n
decreasing_by omega
theorem qQ5:∀(k n:Nat),n<10 ^ (k+1)→k≤17→∀fu,k+1≤fu→(uE fu (n:Int)=true∧wZ fu (n:Int)=(qFK n,()))∧(qFK n).length≤k+1
 | 0,n,hn,_,0,hf=>by omega
 | 0,n,hn,_,f+1,_=>by
  have h10:n<10:=by simpa using hn
  have e0:qFK n=zF4 n:=by rw[qFK];simp;omega
  rw[e0]
  refine⟨qLi ?_,Nat.le_refl 1⟩
  have e1:decide ((n:Int)<0)=false:=by simp
  have e2:decide ((n:Int)≥10)=false:=by simp;omega
  unfold qAO
  refine aF ?_
  simp only[fC,dE,e1,e2,cond_false,zF4]
 | k+1,n,hn,hk,0,hf=>by omega
 | k+1,n,hn,hk,f+1,hf=>by
  by_cases h10:10≤n
  ·have hd:n / 10<10 ^ (k+1):=by
    rw[Nat.pow_succ] at hn
    omega
   have hm:n % 10<10 ^ (0+1):=by simp;omega
   have i1:=qQ5 k (n / 10) hd (by omega) f (by omega)
   have i2:=qQ5 0 (n % 10) hm (by omega) f (by omega)
   have e0:qFK n=qFK (n / 10)++qFK (n % 10):=by
    rw[qFK];simp only[h10,dite_true]
    have: qFK (n % 10)=zF4 (n % 10):=by rw[qFK];simp;omega
    rw[this]
   rw[e0]
   refine⟨qLi ?_,by rw[List.length_append];have:= i1.2;have:= i2.2;omega⟩
   have e1:decide ((n:Int)<0)=false:=by simp
   have e2:decide ((n:Int)≥10)=true:=by simp;omega
   have e3:w64 ((n:Int).tdiv 10)=((n / 10:Nat):Int):=by
    have e:(n:Int).tdiv 10=((n / 10:Nat):Int):=(Int.ofNat_tdiv n 10).symm
    have hb:n<10 ^ 18:=Nat.lt_of_lt_of_le hn (Nat.pow_le_pow_right (by decide) (by omega))
    rw[e,fE]<;>omega
   have e4:(n:Int).tmod 10=((n % 10:Nat):Int):=(Int.ofNat_tmod n 10).symm
   have e5:Nat.ble ((qFK (n / 10)).length+(qFK (n % 10)).length) 9223372036854775807=true:=qGw.2 (by have:= i1.2;have:= i2.2;omega)
   unfold qAO
   refine aF ?_
   simp only[fC,dE,dN,e1,e2,e3,e4,i1.1.1,i1.1.2,i2.1.1,i2.1.2,e5,cond_false,cond_true]
  ·have hlt:n<10:=by omega
   have i:=qQ5 0 n (by simpa using hlt) (by omega) (f+1) (by omega)
   exact⟨i.1,by have:= i.2;omega⟩
def qC0(x:Int):Prop:=0≤x∧x≤1000000000
def qFL(x:Int):B:=qFK x.toNat
theorem rG{x:Int}(h:qC0 x):(sI x=true∧jA x=(qFL x,()))∧(qFL x).length≤10:=by
 obtain⟨h1,h2⟩:=h
 have e:x=(x.toNat:Int):=by omega
 have:= qQ5 9 x.toNat (by omega) (by decide) 20 (by decide)
 rw[←e] at this
 exact this
def sp5(s l:B):B:=s++[32]++l
def cap5(s:B)(c:Cp):B:=s++[32]++qFL c.least++[47]++qFL c.most
def qu5(s:B)(q:Qu):B:=q.caps.foldl cap5 (s++[113,117,101,117,101,32]++q.path++[32]++qFL q.user)++[10]
theorem qYB(s l:B):(sp5 s l).length=s.length+1+l.length:=by unfold sp5;simp only[List.length_append,List.length_cons,List.length_nil]
def qFM(c:Cf):B:=(List.range (c.labels.length-1)).foldl (fun s i=>sp5 s (c.labels.getD (i+1) [])) qWq
def qAe(c:Cf):B:=c.queues.foldl qu5 (qFM c++[10])
structure qLV(c:Cf):Prop where
 read:qBi c
 user:∀q∈c.queues,qC0 q.user
 caps:∀q∈c.queues,∀x∈q.caps,qC0 x.least∧qC0 x.most
theorem qTR{s:B}{c:Cp}(h:qC0 c.least∧qC0 c.most):(cap5 s c).length≤s.length+22:=by
 have h1:=(rG h.1).2
 have h2:=(rG h.2).2
 unfold cap5
 simp only[List.length_append,List.length_cons,List.length_nil];omega
theorem qHb:∀(l:List Cp) (s:B),(∀x∈l,qC0 x.least∧qC0 x.most)→(l.foldl cap5 s).length≤s.length+22*l.length
 | [],s,_=>by simp
 | a::l,s,h=>by
  have h1:=qTR (s:=s) (h a List.mem_cons_self)
  have h2:=qHb l (cap5 s a) fun x hx=>h x (List.mem_cons_of_mem _ hx)
  rw[List.foldl,List.length_cons];omega
theorem qYC{c:Cf}(h:qLV c):(qBO c=true∧qAH c=(qAe c,()))∧(qAe c).length≤50000:=by
 have hl:=h.read.labels
 have hq:=h.read.queues
 have key:∀n,n≤c.labels.length-1→((List.range n).foldl (fun s i=>sp5 s (c.labels.getD (i+1) [])) qWq).length≤6+2001*n:=by
  intro n
  induction n with
  | zero=>intro _;exact Nat.le_refl 6
  | succ n ih =>
   intro hn
   rw[dK]
   have h1:=ih (by omega)
   have h2:=h.read.lab _ (bT (d:=[]) (show n+1<c.labels.length by omega))
   rw[qYB];omega
 have hlab:(qFM c).length≤4010:=by have:= key _ (Nat.le_refl _);unfold qFM;omega
 have hqlen:∀(l:List Qu) (s:B),(∀q∈l,q∈c.queues)→(l.foldl qu5 s).length≤s.length+2100*l.length:=by
  intro l
  induction l with
  | nil=>intro s _;simp
  | cons q l ih =>
   intro s hs
   have hqc:=hs q List.mem_cons_self
   have h1:=ih (qu5 s q) fun x hx=>hs x (List.mem_cons_of_mem _ hx)
   have h2:(qu5 s q).length≤s.length+2100:=by
    have r:=h.read.qu q hqc
    have d:=(rG (h.user q hqc)).2
    have h3:=qHb q.caps (s++[113,117,101,117,101,32]++q.path++[32]++qFL q.user) (h.caps q hqc)
    unfold qu5
    simp only[List.length_append,List.length_cons,List.length_nil] at h3 ⊢
    omega
   rw[List.foldl,List.length_cons];omega
 have hall:(qAe c).length≤50000:=by
  have:= hqlen c.queues (qFM c++[10]) fun q hq=>hq
  unfold qAe
  simp only[List.length_append,List.length_cons,List.length_nil] at this ⊢
  omega
 refine⟨zHt ?_,hall⟩
 unfold qYf
 have small:∀n:Nat,n≤1000000→Nat.ble n 9223372036854775807=true:=fun n hn=>qGw.2 (by omega)
 refine aT (qFM c,()) ?_ ?_
 ·unfold qFM
  refine qHS (c.labels.length-1) (fun i (v:B)=>(v,i+1,())) (fun s i=>sp5 s (c.labels.getD (i+1) [])) (fun v=>Sum.inl (v,())) (fun i v=>v.length≤6+2001*i) (fun i v hi hv=>⟨?_,aF ?_⟩) (fun v hv=>aF ?_) (b0:=qWq) (Nat.le_refl 6)
  ·have hv:v.length≤6+2001*i:=hv
   have h2:=h.read.lab _ (bT (d:=[]) (show i+1<c.labels.length by omega))
   show(sp5 v _).length≤_
   rw[qYB];omega
  ·have hv:v.length≤6+2001*i:=hv
   have h2:=h.read.lab _ (bT (d:=[]) (show i+1<c.labels.length by omega))
   have e0:(i:Int)+1=((i+1:Nat):Int):=rfl
   have e1:w64 (((i+1:Nat):Int)+1)=((i+1:Nat):Int)+1:=by rw[fE]<;>omega
   have e2:=small (v.length+1) (by omega)
   have e3:=small ((v++[OfNat.ofNat 32]).length+(c.labels.getD (i+1) []).length) (by simp only[List.length_append,List.length_cons,List.length_nil];omega)
   simp only[fC,dN,dE,e0,bF (show i+1<c.labels.length by omega),bG (show i+1<c.labels.length by omega),Int.toNat_natCast,e1,e2,e3,cond_true,sp5]
  ·have e0:((c.labels.length-1:Nat):Int)+1=((c.labels.length-1+1:Nat):Int):=rfl
   simp only[fC,dE,e0,zLI (show c.labels.length≤c.labels.length-1+1 by omega),cond_false]
 ·have e1:=small ((qFM c).length+1) (by omega)
  simp only[e1,bH]
  unfold qAe
  refine pV c.queues dQu (fun i (v:B)=>(v,i,())) qu5 (fun v=>(v,())) (fun i v=>v.length≤4011+2100*i) (fun i v hi hv=>?_) (fun v hv=>aF ?_) (b0:=qFM c++[10]) ?_
  ·have hv:v.length≤4011+2100*i:=hv
   have hqc:=bT (d:=dQu) hi
   have r:=h.read.qu _ hqc
   have d:=rG (h.user _ hqc)
   have hcaps:=h.caps _ hqc
   have hl2:=hqlen [c.queues.getD i dQu] v fun q hq=>by rw[List.mem_singleton.1 hq];exact hqc
   refine⟨by simp only[List.foldl,List.length_cons,List.length_nil] at hl2;omega,?_⟩
   simp only[bF hi,bG hi,jP,mV,Int.toNat_natCast,aG hi (show c.queues.length≤1000000000 by omega),d.1.1,d.1.2]
   have hv2:v.length≤40000:=by omega
   have s1:=small (v.length+6) (by omega)
   have s2:=small ((v++[OfNat.ofNat 113,OfNat.ofNat 117,OfNat.ofNat 101,OfNat.ofNat 117,OfNat.ofNat 101,OfNat.ofNat 32]).length+(c.queues.getD i dQu).path.length) (by simp only[List.length_append,List.length_cons,List.length_nil];omega)
   have s3:=small ((v++[OfNat.ofNat 113,OfNat.ofNat 117,OfNat.ofNat 101,OfNat.ofNat 117,OfNat.ofNat 101,OfNat.ofNat 32]++(c.queues.getD i dQu).path).length+1) (by simp only[List.length_append,List.length_cons,List.length_nil];omega)
   have s4:=small ((v++[OfNat.ofNat 113,OfNat.ofNat 117,OfNat.ofNat 101,OfNat.ofNat 117,OfNat.ofNat 101,OfNat.ofNat 32]++(c.queues.getD i dQu).path++[OfNat.ofNat 32]).length+(qFL (c.queues.getD i dQu).user).length) (by have:= d.2;simp only[List.length_append,List.length_cons,List.length_nil];omega)
   simp only[s1,s2,s3,s4,mV]
   refine aT (qu5 v (c.queues.getD i dQu),()) ?_ (aF rfl)
   refine aT ((c.queues.getD i dQu).caps.foldl cap5 (v++[113,117,101,117,101,32]++(c.queues.getD i dQu).path++[32]++qFL (c.queues.getD i dQu).user),()) ?_ ?_
   ·refine pV (c.queues.getD i dQu).caps dCp (fun j (w:B)=>(w,j,())) cap5 (fun w=>Sum.inl (w,())) (fun j w=>w.length≤42100+22*j) (fun j w hj hw=>?_) (fun w hw=>aF ?_) ?_
    ·have hw:w.length≤42100+22*j:=hw
     have hc:=hcaps _ (bT (d:=dCp) hj)
     have d1:=rG hc.1
     have d2:=rG hc.2
     have hcl:=qTR (s:=w) hc
     have r1:=r.1
     have t1:=small (w.length+1) (by omega)
     have t2:=small ((w++[OfNat.ofNat 32]).length+(qFL ((c.queues.getD i dQu).caps.getD j dCp).least).length) (by have:= d1.2;simp only[List.length_append,List.length_cons,List.length_nil];omega)
     have t3:=small ((w++[OfNat.ofNat 32]++qFL ((c.queues.getD i dQu).caps.getD j dCp).least).length+1) (by have:= d1.2;simp only[List.length_append,List.length_cons,List.length_nil];omega)
     have t4:=small ((w++[OfNat.ofNat 32]++qFL ((c.queues.getD i dQu).caps.getD j dCp).least++[OfNat.ofNat 47]).length+(qFL ((c.queues.getD i dQu).caps.getD j dCp).most).length) (by have:= d1.2;have:= d2.2;simp only[List.length_append,List.length_cons,List.length_nil];omega)
     refine⟨by omega,aF ?_⟩
     simp only[fC,dN,dE,bF hj,bG hj,Int.toNat_natCast,aG hj (show(c.queues.getD i dQu).caps.length≤1000000000 by omega),d1.1.1,d1.1.2,d2.1.1,d2.1.2,t1,t2,t3,t4,cond_true,cap5]
    ·simp only[sS,bM]
    ·have:= d.2
     simp only[List.length_append,List.length_cons,List.length_nil];omega
   ·have h3:=qHb (c.queues.getD i dQu).caps (v++[113,117,101,117,101,32]++(c.queues.getD i dQu).path++[32]++qFL (c.queues.getD i dQu).user) hcaps
    have s5:=small (((c.queues.getD i dQu).caps.foldl cap5 (v++[113,117,101,117,101,32]++(c.queues.getD i dQu).path++[32]++qFL (c.queues.getD i dQu).user)).length+1) (by have:= d.2;have:= r.1;simp only[List.length_append,List.length_cons,List.length_nil] at h3 ⊢;omega)
    refine aF ?_
    simp only[dN,dE,s5,cond_true,qu5]
  ·simp only[sS,bM]
  ·show(qFM c++[10]).length≤4011
   simp only[List.length_append,List.length_cons,List.length_nil];omega
end Go.Proofs.YtehpnjmgjmkjaaaGreatDoor
