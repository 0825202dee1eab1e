/- Part of the proof: texts Bw Bx. No conditions. -/
import Derived.Test.YtlmkakccmpncjaaGreatDoorBk
set_option linter.all false
namespace Go.Proofs.YtlmkakccmpncjaaGreatDoor
open Go Go.W Go.Proofs
open Go.W.DT (ret need br bad loop join)
set_option maxRecDepth 100000
def nN(text:B):Int:=bif (fH text).2.1==0 then uG (fH text).1 else(fH text).2.1
def kJ(s:Se)(text:B):Se×Ou×Unit :=
 bif nN text != 0 then(s,eOu (nN text),())
 else bif decide (((fH text).1.labels.length:Int)<(s.conf.labels.length:Int)) then(s,eOu 14,())
 else bif (List.range' 0 (s.conf.labels.length-0)).any (fun i=>!((fH text).1.labels.getD i []==s.conf.labels.getD i [])) then(s,eOu 14,())
 else bif s.apps.any (fun a=>live a&&!mP (fH text).1 a.queue) then(s,eOu 14,())
 else({ s with conf:=(fH text).1 },dOu,())
theorem qW1{s:Se}(text:B)(h:dH s):xY s text=true∧wR s text=kJ s text:=qVV (by
 unfold qKS kJ
 have hp:=zHm text
 have hr:=qIo text
 have hk:=zHh hr.n
 have hc:cfN 1000000000 (fH text).1=true:=kU.2 ⟨bq hr.labels (by decide),bq hr.queues (by decide),fun q hq=>⟨bq (hr.qu q hq).1 (by decide),bq (hr.qu q hq).2 (by decide)⟩⟩
 simp only[hp.1,hp.2,aW]
 refine aN (nN text,()) ?_ ?_
 ·unfold nN
  cases (fH text).2.1==0 with
  | true=>exact aF (by simp only[sS,hk.1,hk.2])
  | false=>exact aF rfl
 ·cases nN text != 0 with
  | true=>exact aF rfl
  | false =>
  simp only[eY,cond_false]
  cases hl:decide (((fH text).1.labels.length:Int)<(s.conf.labels.length:Int)) with
  | true=>exact aF rfl
  | false =>
  have hl:s.conf.labels.length≤(fH text).1.labels.length:=by simp at hl;omega
  simp only[eY,cond_false]
  have hn:=h.labels
  have ha:=h.apps
  generalize (fH text).1=c at hl hc ⊢
  refine qC7 0 s.conf.labels.length (fun i=>(i,())) (fun i=>!(c.labels.getD i []==s.conf.labels.getD i [])) (s,eOu 14,()) _ (fun i _ hi=>?_) (fun i a b _=>?_)
  ·refine aF ?_
   simp only[sS,aY hi,bB hi,bB (ig hi hl),aD hi hn]
   cases c.labels.getD i []==s.conf.labels.getD i []<;>rfl
  ·have hi:=b (cz _)
   subst hi
   simp only[bE,eY]
   have e:∀q:Bool,(Sum.inr (bif q then(s,eOu 14,()) else({ s with conf:=c },dOu,())):(Int×Unit) ⊕ (Se×Ou×Unit))=(fun q=>Sum.inr (bif q then(s,eOu 14,()) else({ s with conf:=c },dOu,()))) q:=fun _=>rfl
   refine qIe s.apps dAp (fun i=>(i,())) (fun a=>live a&&!mP c a.queue) (fun q=>Sum.inr (bif q then(s,eOu 14,()) else({ s with conf:=c },dOu,()))) (fun i hi=>?_) ?_
   ·have hq:=lM (s.apps.getD i dAp)
    simp only[sS,aY hi,bB hi,aD hi ha,hq.1,hq.2,hc,aK]
    cases live (s.apps.getD i dAp)<;>cases mP c (s.apps.getD i dAp).queue<;>rfl
   ·simp only[sS,bE])
structure qCD(b:Nat)(s:Se):Prop where
 keep:bJ b (s.conf,s.epoch) s
theorem bJ.fine{b:Nat}{c:CfE}{s:Se}(h:bJ b c s):qCD b s:=⟨⟨h.pot,rfl,rfl,h.gd,h.tidy⟩⟩
theorem qCD.le{b d:Nat}{s:Se}(h:qCD b s)(hb:b≤d):qCD d s:=⟨h.keep.le hb⟩
theorem qCD.ok{b:Nat}{s:Se}(h:qCD b s)(hb:b≤1000000000):dH s:=h.keep.pot.ok hb
theorem qMk{b:Nat}{s:Se}(text:B)(h:qCD b s):qCD (b+2000) (kJ s text).1:=by
 unfold kJ
 cases he:nN text != 0 with
 | true=>exact h.le (by omega)
 | false =>
 cases decide (((fH text).1.labels.length:Int)<(s.conf.labels.length:Int)) with
 | true=>exact h.le (by omega)
 | false =>
 cases (List.range' 0 (s.conf.labels.length-0)).any (fun i=>!((fH text).1.labels.getD i []==s.conf.labels.getD i [])) with
 | true=>exact h.le (by omega)
 | false =>
 cases s.apps.any (fun a=>live a&&!mP (fH text).1 a.queue) with
 | true=>exact h.le (by omega)
 | false =>
  have hr:=qIo text
  have hc:uG (fH text).1=0:=by
   have he:nN text=0:=by simpa using he
   unfold nN at he
   cases hz:(fH text).2.1==0 with
   | true=>rw[hz] at he;exact he
   | false=>rw[hz] at he;simp at he hz;exact absurd he hz
  have hg:=(qCA hc).1
  obtain⟨k,h1,h2⟩:=h.keep.pot
  have h1:=h1.le (ny k 2000)
  refine⟨⟨⟨k+2000,⟨h1.1,h1.2,h1.3,h1.4,h1.5,bq hr.labels (by omega),bq hr.queues (by omega),h1.8,fun q hq=>⟨bq (hr.qu q hq).1 (by omega),bq (hr.qu q hq).2 (by omega)⟩,fun l hl=>bq (hr.lab l hl) (by omega)⟩,?_⟩,rfl,rfl,hg,h.keep.tidy.of rfl rfl⟩⟩
  show k+2000+s.conts.length≤b+2000
  omega
def kC(s:Se)(x:Ip):Se×Ou×Unit :=
 bif x.kind==1 then kJ s x.text
 else bif x.kind==2 then((iL s x.node).1,eOu (iL s x.node).2,())
 else bif x.kind==3 then qED s x
 else bif x.kind==4 then((kH s x.app).1,eOu (kH s x.app).2,())
 else bif x.kind==5 then wV s x
 else bif x.kind==6 then((wT s x.id 3).1,(wT s x.id 3).2,())
 else bif x.kind==7 then((wT s x.id 4).1,(wT s x.id 4).2,())
 else bif x.kind==8 then qEE s x.n
 else bif x.kind==9 then((qGh s x.plan x.n).1,⟨(qGh s x.plan x.n).2.2.1,[],[],[],(qGh s x.plan x.n).2.1⟩,())
 else bif x.kind==10 then((rE s x.id).1,eOu (rE s x.id).2,())
 else bif x.kind==11 then(bif decide (s.epoch≥1048576) then(s,eOu 11,()) else({ s with epoch:=w64 (s.epoch+1),seq:=0 },dOu,()))
 else(s,eOu 3,())
structure qZc(x:Ip):Prop where
 ids:x.ids.length≤100000000
 asks:x.asks.length≤100000000
theorem qIp{b:Nat}{s:Se}(x:Ip)(h:qCD b s)(hb:b≤80000000):qCD (b+2000) (kC s x).1:=by
 have K:=h.keep
 unfold kC
 cases x.kind==1 with
 | true=>exact qMk _ h
 | false =>
 cases x.kind==2 with
 | true=>exact(wW _ K).fine.le (by omega)
 | false =>
 cases x.kind==3 with
 | true=>exact(qC4 _ K).fine.le (by omega)
 | false =>
 cases x.kind==4 with
 | true=>exact(yX _ K).fine.le (by omega)
 | false =>
 cases x.kind==5 with
 | true=>exact(yV _ K).fine.le (by omega)
 | false =>
 cases x.kind==6 with
 | true=>exact(oU _ _ K).fine.le (by omega)
 | false =>
 cases x.kind==7 with
 | true=>exact(oU _ _ K).fine.le (by omega)
 | false =>
 cases x.kind==8 with
 | true=>exact(qC5 _ K (by omega)).fine.le (by omega)
 | false =>
 cases x.kind==9 with
 | true=>exact(qEF _ _ K).fine.le (by omega)
 | false =>
 cases x.kind==10 with
 | true=>exact(qC6 _ K).fine.le (by omega)
 | false =>
 cases x.kind==11 with
 | false=>exact h.le (by omega)
 | true =>
 cases decide (s.epoch≥1048576) with
 | true=>exact h.le (by omega)
 | false =>
  obtain⟨k,h1,h2⟩:=K.pot
  exact qCD.le ⟨⟨⟨k,⟨h1.1,h1.2,h1.3,h1.4,h1.5,h1.6,h1.7,h1.8,h1.9,h1.10⟩,h2⟩,rfl,rfl,K.good,K.tidy.of rfl rfl⟩⟩ (show b≤b+2000 by omega)
theorem qT7{b:Nat}{s:Se}{x:Ip}(h:qCD b s)(hb:b≤80000000)(hx:qZc x):qAp s x=true∧qCm s x=kC s x:=zGz (by
 unfold qTe kC
 have K:=h.keep
 have hO:=h.ok (show b≤1000000000 by omega)
 have hS:seN 1000000000 s=true:=uW.2 (K.sn.le (by omega))
 have q1:=qW1 x.text hO
 have q3:=zGZ K hb hx.ids
 have q5:=qWs K (show b≤100000000 by omega) hx.ids hx.asks
 have q6:=qTp x.id 3 (K.sn.le (show b≤999999999 by omega))
 have q7:=qTp x.id 4 (K.sn.le (show b≤999999999 by omega))
 have q8:=zHc x.n K (show b≤100000000 by omega)
 have q9:=zKi x.plan x.n hO (bq K.sn.plans (by omega))
 simp only[aM.2 hO,aK,hS,q1.1,q1.2,q3.1,q3.2,q5.1,q5.2,q6.1,q6.2,q7.1,q7.2,q8.1,q8.2,q9.1,q9.2]
 cases x.kind==1 with
 | true=>exact aF rfl
 | false =>
 cases x.kind==2 with
 | true=>exact aF rfl
 | false =>
 cases x.kind==3 with
 | true=>exact aF rfl
 | false =>
 cases x.kind==4 with
 | true=>exact aF rfl
 | false =>
 cases x.kind==5 with
 | true=>exact aF rfl
 | false =>
 cases x.kind==6 with
 | true=>exact aF rfl
 | false =>
 cases x.kind==7 with
 | true=>exact aF rfl
 | false =>
 cases x.kind==8 with
 | true=>exact aF rfl
 | false =>
 cases x.kind==9 with
 | true=>exact aF rfl
 | false =>
 cases x.kind==10 with
 | true=>exact aF rfl
 | false =>
 cases x.kind==11 with
 | false=>exact aF rfl
 | true =>
 cases decide (s.epoch≥1048576)<;>exact aF rfl)
def zHn(n:Nat):B:=[UInt8.ofNat (IntKind.u8.wrap (w64 (48+(n:Int)))).toNat]
def qGt(n:Nat):B:=if h:10≤n then qGt (n / 10)++zHn (n % 10) else zHn n
termination_by n
decreasing_by omega
theorem qPQ:∀(k n:Nat),n<10 ^ (k+1)→k≤17→∀fu,k+1≤fu→(uY fu (n:Int)=true∧xW fu (n:Int)=(qGt n,()))∧(qGt n).length≤k+1
 | 0,n,hn,_,0,hf=>by omega
 | 0,n,hn,_,f+1,_=>by
  have h10:n<10:=by simpa using hn
  have e0:qGt n=zHn n:=by rw[qGt];simp;omega
  rw[e0]
  refine⟨qKM ?_,df 1⟩
  have e1:decide ((n:Int)<0)=false:=by simp
  have e2:decide ((n:Int)≥10)=false:=by simp;omega
  unfold qBb
  refine aF ?_
  simp only[eG,cB,e1,e2,cond_false,zHn]
 | k+1,n,hn,hk,0,hf=>by omega
 | k+1,n,hn,hk,f+1,hf=>by
  by_cases h10:10≤n
  ·have hd:n / 10<10 ^ (k+1):=by
    rw[Nat.pow_succ] at hn
    omega
   have hm:n % 10<10 ^ (0+1):=by simp;omega
   have i1:=qPQ k (n / 10) hd (by omega) f (by omega)
   have i2:=qPQ 0 (n % 10) hm (by omega) f (by omega)
   have e0:qGt n=qGt (n / 10)++qGt (n % 10):=by
    rw[qGt];simp only[h10,dite_true]
    have: qGt (n % 10)=zHn (n % 10):=by rw[qGt];simp;omega
    rw[this]
   rw[e0]
   refine⟨qKM ?_,by rw[dh];have:= i1.2;have:= i2.2;omega⟩
   have e1:decide ((n:Int)<0)=false:=by simp
   have e2:decide ((n:Int)≥10)=true:=by simp;omega
   have e3:w64 ((n:Int).tdiv 10)=((n / 10:Nat):Int):=by
    have e:(n:Int).tdiv 10=((n / 10:Nat):Int):=(Int.ofNat_tdiv n 10).symm
    have hb:n<10 ^ 18:=ig hn (uz (by decide) (by omega))
    rw[e,dI]<;>omega
   have e4:(n:Int).tmod 10=((n % 10:Nat):Int):=(Int.ofNat_tmod n 10).symm
   have e5:Nat.ble ((qGt (n / 10)).length+(qGt (n % 10)).length) 9223372036854775807=true:=qHb.2 (by have:= i1.2;have:= i2.2;omega)
   unfold qBb
   refine aF ?_
   simp only[eG,cB,dD,e1,e2,e3,e4,i1.1.1,i1.1.2,i2.1.1,i2.1.2,e5,cond_false,cond_true]
  ·have hlt:n<10:=by omega
   have i:=qPQ 0 n (by simpa using hlt) (by omega) (f+1) (by omega)
   exact⟨i.1,by have:= i.2;omega⟩
def qCE(x:Int):Prop:=0≤x∧x≤1000000000
def qGu(x:Int):B:=qGt x.toNat
theorem rW{x:Int}(h:qCE x):(sZ x=true∧nW x=(qGu x,()))∧(qGu x).length≤10:=by
 obtain⟨h1,h2⟩:=h
 have e:x=(x.toNat:Int):=by omega
 have:= qPQ 9 x.toNat (by omega) (by decide) 20 (by decide)
 rw[←e] at this
 exact this
def sp5(s l:B):B:=s++[32]++l
def cap5(s:B)(c:Cp):B:=s++[32]++qGu c.least++[47]++qGu c.most
def qu5(s:B)(q:Qu):B:=q.caps.foldl cap5 (s++[113,117,101,117,101,32]++q.path++[32]++qGu q.user)++[10]
theorem qZd(s l:B):(sp5 s l).length=s.length+1+l.length:=by unfold sp5;simp only[dh,dw,gq]
def qGv(c:Cf):B:=(List.range (c.labels.length-1)).foldl (fun s i=>sp5 s (c.labels.getD (i+1) [])) qW0
def qAx(c:Cf):B:=c.queues.foldl qu5 (qGv c++[10])
structure qLx(c:Cf):Prop where
 read:qBt c
 user:∀q∈c.queues,qCE q.user
 caps:∀q∈c.queues,∀x∈q.caps,qCE x.least∧qCE x.most
theorem qT8{s:B}{c:Cp}(h:qCE c.least∧qCE c.most):(cap5 s c).length≤s.length+22:=by
 have h1:=(rW h.1).2
 have h2:=(rW h.2).2
 unfold cap5
 simp only[dh,dw,gq];omega
theorem qH2:∀(l:List Cp) (s:B),(∀x∈l,qCE x.least∧qCE x.most)→(l.foldl cap5 s).length≤s.length+22*l.length
 | [],s,_=>by simp
 | a::l,s,h=>by
  have h1:=qT8 (s:=s) (h a j4)
  have h2:=qH2 l (cap5 s a) fun x hx=>h x (gy _ hx)
  rw[List.foldl,dw];omega
theorem qZe{c:Cf}(h:qLx c):(qCc c=true∧qFK c=(qAx c,()))∧(qAx c).length≤50000:=by
 have hl:=h.read.labels
 have hq:=h.read.queues
 have key:∀n,n≤c.labels.length-1→((List.range n).foldl (fun s i=>sp5 s (c.labels.getD (i+1) [])) qW0).length≤6+2001*n:=by
  intro n
  induction n with
  | zero=>intro _;exact df 6
  | succ n ih =>
   intro hn
   rw[dB]
   have h1:=ih (by omega)
   have h2:=h.read.lab _ (bL (d:=[]) (show n+1<c.labels.length by omega))
   rw[qZd];omega
 have hlab:(qGv c).length≤4010:=by have:= key _ (df _);unfold qGv;omega
 have hqlen:∀(l:List Qu) (s:B),(∀q∈l,q∈c.queues)→(l.foldl qu5 s).length≤s.length+2100*l.length:=by
  intro l
  induction l with
  | nil=>intro s _;simp
  | cons q l ih =>
   intro s hs
   have hqc:=hs q j4
   have h1:=ih (qu5 s q) fun x hx=>hs x (gy _ hx)
   have h2:(qu5 s q).length≤s.length+2100:=by
    have r:=h.read.qu q hqc
    have d:=(rW (h.user q hqc)).2
    have h3:=qH2 q.caps (s++[113,117,101,117,101,32]++q.path++[32]++qGu q.user) (h.caps q hqc)
    unfold qu5
    simp only[dh,dw,gq] at h3 ⊢
    omega
   rw[List.foldl,dw];omega
 have hall:(qAx c).length≤50000:=by
  have:= hqlen c.queues (qGv c++[10]) fun q hq=>hq
  unfold qAx
  simp only[dh,dw,gq] at this ⊢
  omega
 refine⟨zJK ?_,hall⟩
 unfold qY6
 have small:∀n:Nat,n≤1000000→Nat.ble n 9223372036854775807=true:=fun n hn=>qHb.2 (by omega)
 refine aN (qGv c,()) ?_ ?_
 ·unfold qGv
  refine qIh (c.labels.length-1) (fun i (v:B)=>(v,i+1,())) (fun s i=>sp5 s (c.labels.getD (i+1) [])) (fun v=>Sum.inl (v,())) (fun i v=>v.length≤6+2001*i) (fun i v hi hv=>⟨?_,aF ?_⟩) (fun v hv=>aF ?_) (b0:=qW0) (df 6)
  ·have hv:v.length≤6+2001*i:=hv
   have h2:=h.read.lab _ (bL (d:=[]) (show i+1<c.labels.length by omega))
   show(sp5 v _).length≤_
   rw[qZd];omega
  ·have hv:v.length≤6+2001*i:=hv
   have h2:=h.read.lab _ (bL (d:=[]) (show i+1<c.labels.length by omega))
   have e0:(i:Int)+1=((i+1:Nat):Int):=rfl
   have e1:w64 (((i+1:Nat):Int)+1)=((i+1:Nat):Int)+1:=by rw[dI]<;>omega
   have e2:=small (v.length+1) (by omega)
   have e3:=small ((v++[OfNat.ofNat 32]).length+(c.labels.getD (i+1) []).length) (by simp only[dh,dw,gq];omega)
   simp only[eG,dD,cB,e0,aY (show i+1<c.labels.length by omega),bB (show i+1<c.labels.length by omega),di,e1,e2,e3,cond_true,sp5]
  ·have e0:((c.labels.length-1:Nat):Int)+1=((c.labels.length-1+1:Nat):Int):=rfl
   simp only[eG,cB,e0,zPa (show c.labels.length≤c.labels.length-1+1 by omega),cond_false]
 ·have e1:=small ((qGv c).length+1) (by omega)
  simp only[e1,aW]
  unfold qAx
  refine nM c.queues dQu (fun i (v:B)=>(v,i,())) qu5 (fun v=>(v,())) (fun i v=>v.length≤4011+2100*i) (fun i v hi hv=>?_) (fun v hv=>aF ?_) (b0:=qGv c++[10]) ?_
  ·have hv:v.length≤4011+2100*i:=hv
   have hqc:=bL (d:=dQu) hi
   have r:=h.read.qu _ hqc
   have d:=rW (h.user _ hqc)
   have hcaps:=h.caps _ hqc
   have hl2:=hqlen [c.queues.getD i dQu] v fun q hq=>by rw[ib.1 hq];exact hqc
   refine⟨by simp only[List.foldl,dw,gq] at hl2;omega,?_⟩
   simp only[aY hi,bB hi,jQ,mE,di,aD hi (show c.queues.length≤1000000000 by omega),d.1.1,d.1.2]
   have hv2:v.length≤40000:=by omega
   have s1:=small (v.length+6) (by omega)
   have s2:=small ((v++[OfNat.ofNat 113,OfNat.ofNat 117,OfNat.ofNat 101,OfNat.ofNat 117,OfNat.ofNat 101,OfNat.ofNat 32]).length+(c.queues.getD i dQu).path.length) (by simp only[dh,dw,gq];omega)
   have s3:=small ((v++[OfNat.ofNat 113,OfNat.ofNat 117,OfNat.ofNat 101,OfNat.ofNat 117,OfNat.ofNat 101,OfNat.ofNat 32]++(c.queues.getD i dQu).path).length+1) (by simp only[dh,dw,gq];omega)
   have s4:=small ((v++[OfNat.ofNat 113,OfNat.ofNat 117,OfNat.ofNat 101,OfNat.ofNat 117,OfNat.ofNat 101,OfNat.ofNat 32]++(c.queues.getD i dQu).path++[OfNat.ofNat 32]).length+(qGu (c.queues.getD i dQu).user).length) (by have:= d.2;simp only[dh,dw,gq];omega)
   simp only[s1,s2,s3,s4,mE]
   refine aN (qu5 v (c.queues.getD i dQu),()) ?_ (aF rfl)
   refine aN ((c.queues.getD i dQu).caps.foldl cap5 (v++[113,117,101,117,101,32]++(c.queues.getD i dQu).path++[32]++qGu (c.queues.getD i dQu).user),()) ?_ ?_
   ·refine nM (c.queues.getD i dQu).caps dCp (fun j (w:B)=>(w,j,())) cap5 (fun w=>Sum.inl (w,())) (fun j w=>w.length≤42100+22*j) (fun j w hj hw=>?_) (fun w hw=>aF ?_) ?_
    ·have hw:w.length≤42100+22*j:=hw
     have hc:=hcaps _ (bL (d:=dCp) hj)
     have d1:=rW hc.1
     have d2:=rW hc.2
     have hcl:=qT8 (s:=w) hc
     have r1:=r.1
     have t1:=small (w.length+1) (by omega)
     have t2:=small ((w++[OfNat.ofNat 32]).length+(qGu ((c.queues.getD i dQu).caps.getD j dCp).least).length) (by have:= d1.2;simp only[dh,dw,gq];omega)
     have t3:=small ((w++[OfNat.ofNat 32]++qGu ((c.queues.getD i dQu).caps.getD j dCp).least).length+1) (by have:= d1.2;simp only[dh,dw,gq];omega)
     have t4:=small ((w++[OfNat.ofNat 32]++qGu ((c.queues.getD i dQu).caps.getD j dCp).least++[OfNat.ofNat 47]).length+(qGu ((c.queues.getD i dQu).caps.getD j dCp).most).length) (by have:= d1.2;have:= d2.2;simp only[dh,dw,gq];omega)
     refine⟨by omega,aF ?_⟩
     simp only[eG,dD,cB,aY hj,bB hj,di,aD hj (show(c.queues.getD i dQu).caps.length≤1000000000 by omega),d1.1.1,d1.1.2,d2.1.1,d2.1.2,t1,t2,t3,t4,cond_true,cap5]
    ·simp only[sS,bE]
    ·have:= d.2
     simp only[dh,dw,gq];omega
   ·have h3:=qH2 (c.queues.getD i dQu).caps (v++[113,117,101,117,101,32]++(c.queues.getD i dQu).path++[32]++qGu (c.queues.getD i dQu).user) hcaps
    have s5:=small (((c.queues.getD i dQu).caps.foldl cap5 (v++[113,117,101,117,101,32]++(c.queues.getD i dQu).path++[32]++qGu (c.queues.getD i dQu).user)).length+1) (by have:= d.2;have:= r.1;simp only[dh,dw,gq] at h3 ⊢;omega)
    refine aF ?_
    simp only[dD,cB,s5,cond_true,qu5]
  ·simp only[sS,bE]
  ·show(qGv c++[10]).length≤4011
   simp only[dh,dw,gq];omega
end Go.Proofs.YtlmkakccmpncjaaGreatDoor
