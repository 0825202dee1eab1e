/- Part of the proof. No conditions. -/
import Derived.Test.YtehpnjmgjmkjaaaGreatDoorBf
namespace Go.Proofs.YtehpnjmgjmkjaaaGreatDoor
open Go Go.W Go.Proofs
open Go.W.DT (ret need br bad loop join)
set_option maxRecDepth 100000
def Pot(b:Nat)(s:Se):Prop:=∃n,SeN n s∧n+s.conts.length≤b
theorem Pot.sz{b:Nat}{s:Se}(h:Pot b s):SeN b s:=by obtain⟨n,h1,h2⟩:=h;exact h1.le (by omega)
theorem Pot.ok{b:Nat}{s:Se}(h:Pot b s)(hb:b≤1000000000):dV s:=h.sz.ok hb
theorem Pot.le{b c:Nat}{s:Se}(h:Pot b s)(hb:b≤c):Pot c s:=by obtain⟨n,h1,h2⟩:=h;exact⟨n,h1,by omega⟩
theorem filter_lt{α:Type}{p:α→Bool}{l:List α}{a:α}(ha:a∈l)(hp:p a=false):(l.filter p).length<l.length :=
 List.length_filter_lt_length_iff_exists.2 ⟨a,ha,by simp[hp]⟩
theorem qWa{s:Se}{id:Int}(h:(aD s id).2=true):(aD s id).1∈s.conts∧(aD s id).1.id=id:=by
 unfold aD findD at h ⊢
 cases hf:s.conts.find? (fun c=>c.id==id) with
 | none=>rw[hf] at h;cases h
 | some c =>
  have h1:=List.find?_some hf
  exact⟨List.mem_of_find?_eq_some hf,by simpa using h1⟩
theorem qM0{s:Se}(id:Int):(dR s id).conts.length≤s.conts.length∧((aD s id).2=true→(dR s id).conts.length<s.conts.length):=by
 unfold dR
 cases hc:(aD s id).2 with
 | false=>exact⟨Nat.le_refl _,fun h=>by cases h⟩
 | true =>
  have hm:=qWa hc
  cases hM:(aD s id).1.master with
  | true =>
   have hlt:((s.conts.filter fun c=>!(c.app==(aD s id).1.app)).length)<s.conts.length:=filter_lt hm.1 (by simp)
   exact⟨Nat.le_of_lt hlt,fun _=>hlt⟩
  | false =>
   have hlt:((s.conts.filter fun c=>c.id != (aD s id).1.id).length)<s.conts.length:=filter_lt hm.1 (by simp)
   exact⟨Nat.le_of_lt hlt,fun _=>hlt⟩
theorem Pot.dR{b:Nat}{s:Se}(h:Pot b s)(id:Int):Pot b (dR s id):=by
 obtain⟨n,h1,h2⟩:=h
 obtain⟨g1,g2⟩:=qM0 (s:=s) id
 cases hc:(aD s id).2 with
 | false =>
  have e:Go.Proofs.YtehpnjmgjmkjaaaGreatDoor.dR s id=s:=by unfold Go.Proofs.YtehpnjmgjmkjaaaGreatDoor.dR;rw[hc];rfl
  rw[e];exact⟨n,h1,h2⟩
 | true=>exact⟨n+1,h1.dR id,by have:= g2 hc;omega⟩
theorem Pot.dC{b:Nat}{ids:List Int}:∀{s:Se},Pot b s→Pot b (dC s ids):=by
 induction ids with
 | nil=>exact fun h=>h
 | cons a ids ih=>intro s h;exact ih (h.dR a)
theorem qQy(s:Se)(id:Int):(dR s id).conf=s.conf∧(dR s id).now=s.now∧(dR s id).plans=s.plans∧(dR s id).epoch=s.epoch∧(dR s id).seq=s.seq∧(dR s id).nodes=s.nodes:=by
 unfold dR
 cases (aD s id).2 with
 | false=>exact⟨rfl,rfl,rfl,rfl,rfl,rfl⟩
 | true=>cases (aD s id).1.master<;>exact⟨rfl,rfl,rfl,rfl,rfl,rfl⟩
theorem xK(ids:List Int):∀s:Se,(dC s ids).conf=s.conf∧(dC s ids).now=s.now∧(dC s ids).plans=s.plans∧(dC s ids).epoch=s.epoch∧(dC s ids).seq=s.seq∧(dC s ids).nodes=s.nodes:=by
 induction ids with
 | nil=>exact fun s=>⟨rfl,rfl,rfl,rfl,rfl,rfl⟩
 | cons a ids ih =>
  intro s
  have h1:=ih (dR s a)
  have h2:=qQy s a
  exact⟨h1.1.trans h2.1,h1.2.1.trans h2.2.1,h1.2.2.1.trans h2.2.2.1,h1.2.2.2.1.trans h2.2.2.2.1,h1.2.2.2.2.1.trans h2.2.2.2.2.1,h1.2.2.2.2.2.trans h2.2.2.2.2.2⟩
theorem Pot.rC{b:Nat}{s:Se}(h:Pot b s)(id t:Int):Pot b (rC s id t):=by
 obtain⟨n,h1,h2⟩:=h
 have e:(Go.Proofs.YtehpnjmgjmkjaaaGreatDoor.rC s id t).conts.length=s.conts.length:=by unfold Go.Proofs.YtehpnjmgjmkjaaaGreatDoor.rC;simp
 exact⟨n,⟨h1.1,h1.2,by rw[e];exact h1.3,h1.4,h1.5,h1.6,h1.7,h1.8,h1.9,h1.10⟩,by rw[e];exact h2⟩
def p17(s:Se)(label:Int)(c:Ct):Bool:=c.label==label&&c.notice != 0&&decide (w64 (c.notice+3)≤s.now)
def qCm(label:Int)(s:Se)(c:Ct):Se :=
 bif !(aD s c.id).2 then s
 else bif decide (w64 ((gV s (tN s (aD s c.id).1) label true 0).mem-qCb s (aD s c.id).1)>qTH s label (tN s (aD s c.id).1)) then dC s [(aD s c.id).1.id]
 else rC s (aD s c.id).1.id 0
def rF(s:Se)(label:Int):Se:=(s.conts.filter (p17 s label)).reverse.foldl (qCm label) s
abbrev CfE:=Cf×Int
structure Round(b:Nat)(c:CfE)(s:Se):Prop where
 pot:Pot b s
 conf:s.conf=c.1
 ep:s.epoch=c.2
 good:yF c.1
theorem Round.qCm{b:Nat}{c:CfE}{s:Se}(h:Round b c s)(label:Int)(x:Ct):Round b c (qCm label s x):=by
 unfold Go.Proofs.YtehpnjmgjmkjaaaGreatDoor.qCm
 cases (aD s x.id).2 with
 | false=>exact h
 | true =>
  cases decide (w64 ((gV s (tN s (aD s x.id).1) label true 0).mem-qCb s (aD s x.id).1)>qTH s label (tN s (aD s x.id).1)) with
  | true=>exact⟨h.pot.dC,(xK _ s).1.trans h.conf,(xK _ s).2.2.2.1.trans h.ep,h.good⟩
  | false=>exact⟨h.pot.rC _ _,h.conf,h.ep,h.good⟩
theorem qTI{s:Se}{b:Nat}(label:Int)(h:Round b (s.conf,s.epoch) s)(hb:b≤400000000):(qDn s label=true∧pR s label=(rF s label,()))∧Round b (s.conf,s.epoch) (rF s label):=by
 have hS:=h.pot.ok (show b≤1000000000 by omega)
 have hn:=hS.conts
 have hRound:∀(l:List Ct) (v:Se),Round b (s.conf,s.epoch) v→Round b (s.conf,s.epoch) (l.foldl (qCm label) v):=by
  intro l
  induction l with
  | nil=>exact fun v h=>h
  | cons a l ih=>exact fun v h=>ih _ (h.qCm label a)
 refine⟨zEE ?_,hRound _ _ h⟩
 unfold qTw
 refine aT ((s.conts.filter (p17 s label)).reverse,()) ?_ ?_
 ·refine qP (fun st=>∃(l:List Ct) (k:Nat),st=(l,(k:Int)-1,())∧k≤s.conts.length∧l=((s.conts.drop k).filter (p17 s label)).reverse∧l.length≤s.conts.length-k) (fun st=>(st.2.1+1).toNat) ?_ ⟨[],s.conts.length,by rw[fE]<;>omega,Nat.le_refl _,by simp,by simp⟩
  rintro _ ⟨l,k,rfl,hk,hl,hll⟩
  cases k with
  | zero =>
   right
   rw[List.drop_zero] at hl
   rw[←hl]
   refine aF ?_
   have e:decide (((0:Nat):Int)-1≥0)=false:=by decide
   simp only[sS,e]
  | succ k =>
   left
   have hk2:k<s.conts.length:=by omega
   have e1:(((k+1:Nat):Int)-1)=(k:Int):=by omega
   have e2:decide ((k:Int)≥0)=true:=by simp
   have e3:w64 ((k:Int)-1)=(k:Int)-1:=by rw[fE]<;>omega
   have hd:s.conts.drop k=s.conts.getD k dCt::s.conts.drop (k+1):=by
    rw[List.drop_eq_getElem_cons hk2];simp[List.getD,hk2]
   have hf:aX (l.length+1) 72=true:=eF (by omega) (by decide)
   rw[e1]
   refine⟨(bif p17 s label (s.conts.getD k dCt) then l++[s.conts.getD k dCt] else l,(k:Int)-1,()),aF ?_,⟨_,k,rfl,by omega,?_,?_⟩,by simp only[];omega⟩
   ·simp only[sS,e2,e3,bG hk2,hf,p17]
    cases (s.conts.getD k dCt).label==label<;>cases (s.conts.getD k dCt).notice != 0<;>cases decide (w64 ((s.conts.getD k dCt).notice+3)≤s.now)<;>simp only[sS]
   ·rw[hd,List.filter_cons]
    cases p17 s label (s.conts.getD k dCt) with
    | true=>simp[hl]
    | false=>simp[hl]
   ·cases p17 s label (s.conts.getD k dCt)<;>simp<;>omega
 ·have hL:((s.conts.filter (p17 s label)).reverse).length≤1000000000:=by
   rw[List.length_reverse];exact Nat.le_trans (List.length_filter_le _ _) hn
  unfold rF
  generalize (s.conts.filter (p17 s label)).reverse=L at hL ⊢
  refine kF L dCt (fun i (v:Se)=>(i,(v,()),())) (qCm label) (fun v=>(v,())) (fun _ v=>Round b (s.conf,s.epoch) v) (fun i v hi hI=>⟨Round.qCm hI label _,?_⟩) (fun v hI=>?_) (b0:=s) h
  ·have hI:Round b (s.conf,s.epoch) v:=hI
   have hv:=hI.pot.ok (show b≤1000000000 by omega)
   have hg:yF v.conf:=by rw[hI.conf];exact hI.good
   have hsz:=uD.2 (hI.pot.sz.le hb)
   have c1:=aD v (L.getD i dCt).id
   have a1:=nP (aB v (aD v (L.getD i dCt).id).1.app).1.queue label true 0 hv
   have a2:=qVU (aD v (L.getD i dCt).id).1 hv
   have a3:=zHI label (aB v (aD v (L.getD i dCt).id).1.app).1.queue hv hg
   have a4:=qT7 (aD v (L.getD i dCt).id).1.id 0 hv
   simp only[sS,qCa,bF hi,qCe hi,aG hi hL,aN,aO.2 hv,hsz,a1.1,a1.2,a2.1,a2.2,a3.1,a3.2,a4.1,a4.2,qCm,tN]
   grind [iH,iU]
  ·simp only[sS,bM]
def zIC(s:Se):Int:=if 1>s.now then 1 else s.now
def qFC(s:Se)(id:Int):Se:=rC s id (zIC s)
def qEw(s:Se)(label:Nat):Se:=(qAV (rF s (label:Int)) (label:Int)).foldl qFC (rF s (label:Int))
def uH(s:Se):Se:=(List.range s.conf.labels.length).foldl qEw s
theorem Round.qFC{b:Nat}{c:CfE}{s:Se}(h:Round b c s)(id:Int):Round b c (qFC s id):=⟨h.pot.rC _ _,h.conf,h.ep,h.good⟩
theorem qO1(s:Se)(label:Int):∀(n:Nat) (l:List Int),l.length+qEv s l≤s.conts.length→(qL8 s label n l).length≤s.conts.length
 | 0,l,h=>by unfold qL8;omega
 | n+1,l,h=>by
  unfold qL8
  cases decide (qCc s [] label l<qQw s label) with
  | false=>simp only[cond_false];omega
  | true =>
   cases hb:(lZ s label l).1==0 with
   | true=>simp only[cond_true];omega
   | false =>
    simp only[cond_true,cond_false]
    have hne:(lZ s label l).1≠0:=by simpa using hb
    have hmem:=(qL9 s label l).2.resolve_left hne
    have hlt:=qO0 hmem.1 hmem.2
    exact qO1 s label n _ (by rw[List.length_append,List.length_singleton];omega)
theorem qWb(s:Se)(label:Int):(qAV s label).length≤s.conts.length :=
 qO1 s label _ [] (by rw[List.length_nil,Nat.zero_add];exact List.length_filter_le _ _)
theorem qO2{s:Se}{b:Nat}(h:Round b (s.conf,s.epoch) s)(hb:b≤100000000):(qAN s=true∧uW s=(uH s,qGB s (uH s),()))∧Round b (s.conf,s.epoch) (uH s):=by
 have hF:∀(l:List Int) (v:Se),Round b (s.conf,s.epoch) v→Round b (s.conf,s.epoch) (l.foldl qFC v):=by
  intro l
  induction l with
  | nil=>exact fun v h=>h
  | cons a l ih=>exact fun v h=>ih _ (h.qFC a)
 have hR:∀(v:Se) (i:Nat),Round b (s.conf,s.epoch) v→Round b (s.conf,s.epoch) (qEw v i):=by
  intro v i hv
  have hk:=(qTI (i:Int) (by rw[hv.conf,hv.ep];exact hv) (show b≤400000000 by omega)).2
  rw[hv.conf,hv.ep] at hk
  exact hF _ _ hk
 have hRs:∀n,Round b (s.conf,s.epoch) ((List.range n).foldl qEw s):=by
  intro n
  induction n with
  | zero=>exact h
  | succ n ih=>rw[dK];exact hR _ _ ih
 refine⟨zA4 ?_,hRs _⟩
 unfold qOh
 have hfin:=hRs s.conf.labels.length
 refine aT ((uH s,()),()) (qHS s.conf.labels.length (fun i (v:Se)=>(i,(v,()),())) qEw (fun v=>Sum.inl ((v,()),())) (fun _ v=>Round b (s.conf,s.epoch) v) (fun i v hi hI=>⟨hR v i hI,?_⟩) (fun v hI=>aF ?_) (b0:=s) h) ?_
 ·have hI:Round b (s.conf,s.epoch) v:=hI
  have hlab:s.conf.labels.length≤1000000000:=(h.pot.ok (by omega)).labels
  obtain⟨k1,k2⟩:=qTI (i:Int) (by rw[hI.conf,hI.ep];exact hI) (show b≤400000000 by omega)
  rw[hI.conf,hI.ep] at k2
  have hko:=k2.pot.ok (show b≤1000000000 by omega)
  have hkg:yF (rF v (i:Int)).conf:=by rw[k2.conf];exact k2.good
  have hcn:(rF v (i:Int)).conts.length≤100000000:=by obtain⟨m,m1,m2⟩:=k2.pot;omega
  have hp:=zFk (i:Int) hko hkg hcn
  have hpl:=qWb (rF v (i:Int)) (i:Int)
  refine fQ (by simp only[hI.conf];exact bF hi) (aT ((qEw v i,()),()) (bB k1.1 ?_) (aF (by simp only[sS,aG hi hlab])))
  rw[k1.2]
  refine bB hp.1 ?_
  rw[hp.2]
  simp only[]
  unfold qEw
  refine kF (qAV (rF v (i:Int)) (i:Int)) 0 (fun k (w:Se)=>(k,(w,()),())) qFC (fun w=>Sum.inl ((w,()),())) (fun _ w=>Round b (s.conf,s.epoch) w) (fun k w hk hW=>⟨Round.qFC hW _,?_⟩) (fun w hW=>?_) (b0:=rF v (i:Int)) k2
  ·have hW:Round b (s.conf,s.epoch) w:=hW
   have hq:=qT7 ((qAV (rF v (i:Int)) (i:Int)).getD k 0) (if 1>w.now then 1 else w.now) (hW.pot.ok (show b≤1000000000 by omega))
   simp only[sS,bG hk,bF hk,aG hk (show(qAV (rF v (i:Int)) (i:Int)).length≤1000000000 by omega),hq.1,hq.2,qFC,zIC]
  ·simp only[sS,bM]
 ·have hI:Round b (s.conf,s.epoch) v:=hI
  simp only[sS,hI.conf,bM]
 ·refine aF ?_
  simp only[sS,aO.2 (h.pot.ok (show b≤1000000000 by omega)),aN]
  have e2:=aO.2 (hfin.pot.ok (show b≤1000000000 by omega))
  unfold uH
  simp only[e2,cond_true]
def Asc{α:Type}(key:α→Int)(l:List α):Prop:=l.Pairwise fun a b=>key a<key b
theorem zFl{α:Type}(key:α→Int)(x:α):qA6 key x []=[x]:=rfl
theorem qQz{α:Type}{key:α→Int}{x a:α}{l:List α}(h:key a<key x):qA6 key x (a::l)=a::qA6 key x l:=by
 simp[qA6,h]
theorem qQ0{α:Type}{key:α→Int}{x a:α}{l:List α}(h:key a=key x):qA6 key x (a::l)=x::l:=by
 have h2:decide (key a<key x)=false:=by simp[h]
 simp[qA6,qBB,h]
theorem qY1{α:Type}{key:α→Int}{x a:α}{l:List α}(h:key x<key a)(_hl:Asc key (a::l)):qA6 key x (a::l)=x::a::l:=by
 have h2:decide (key a<key x)=false:=by simp;omega
 have h3:(key a==key x)=false:=by simp;omega
 simp[qA6,h2,qBB,h3]
theorem Asc.put{α:Type}{key:α→Int}{x:α}:∀{l:List α},Asc key l→Asc key (qA6 key x l)
 | [],_=>List.pairwise_singleton _ _
 | a::l,h=>by
  have h1:=List.pairwise_cons.1 h
  rcases Int.lt_trichotomy (key a) (key x) with e | e | e
  ·rw[qQz e]
   refine List.pairwise_cons.2 ⟨fun b hb=>?_,Asc.put h1.2⟩
   rcases qKh hb with e2 | e2
   ·rw[e2];exact e
   ·exact h1.1 b e2
  ·rw[qQ0 e]
   exact List.pairwise_cons.2 ⟨fun b hb=>by have:= h1.1 b hb;show key x<key b;omega,h1.2⟩
  ·rw[qY1 e h]
   exact List.pairwise_cons.2 ⟨fun b hb=>by
    rcases List.mem_cons.1 hb with e2 | e2
    ·rw[e2];exact e
    ·have:= h1.1 b e2;show key x<key b;omega,h⟩
theorem qLA{α:Type}{key:α→Int}{x:α}:∀{l:List α},Asc key l→(∃a∈l,key a=key x)→(qA6 key x l).length=l.length
 | [],_,h=>by obtain⟨a,ha,_⟩:=h;cases ha
 | a::l,h,hx=>by
  have h1:=List.pairwise_cons.1 h
  rcases Int.lt_trichotomy (key a) (key x) with e | e | e
  ·rw[qQz e,List.length_cons,List.length_cons,qLA h1.2]
   obtain⟨b,hb,e2⟩:=hx
   rcases List.mem_cons.1 hb with e3 | e3
   ·rw[e3] at e2;omega
   ·exact⟨b,e3,e2⟩
  ·rw[qQ0 e];rfl
  ·obtain⟨b,hb,e2⟩:=hx
   rcases List.mem_cons.1 hb with e3 | e3
   ·rw[e3] at e2;omega
   ·have:= h1.1 b e3;omega
theorem qO3{α:Type}{key:α→Int}{x:α}(k:Int):∀{l:List α},Asc key l→(qA6 key x l).find? (fun a=>key a==k)=if key x=k then some x else l.find? (fun a=>key a==k)
 | [],_=>by
  rw[zFl]
  by_cases e:key x=k
  ·simp[List.find?,e]
  ·have e2:(key x==k)=false:=by simp[e]
   simp[List.find?,e,e2]
 | a::l,h=>by
  have h1:=List.pairwise_cons.1 h
  rcases Int.lt_trichotomy (key a) (key x) with e | e | e
  ·rw[qQz e,List.find?_cons,List.find?_cons,qO3 k h1.2]
   by_cases e2:key a=k
   ·have e3:¬key x=k:=by omega
    simp[e2,e3]
   ·have e3:(key a==k)=false:=by simp[e2]
    rw[e3]
  ·rw[qQ0 e,List.find?_cons,List.find?_cons]
   by_cases e2:key x=k
   ·simp[e2]
   ·have e3:(key a==k)=false:=by simp;omega
    have e4:(key x==k)=false:=by simp[e2]
    rw[e3,e4];simp[e2]
  ·rw[qY1 e h,List.find?_cons]
   by_cases e2:key x=k
   ·simp[e2]
   ·have e4:(key x==k)=false:=by simp[e2]
    rw[e4];simp[e2]
theorem qDv{α:Type}{key:α→Int}{d:α}{k:Int}{l:List α}(h:(findD d (fun a=>key a==k) l).2=true):(findD d (fun a=>key a==k) l).1∈l∧key (findD d (fun a=>key a==k) l).1=k:=by
 unfold findD at h ⊢
 cases hf:l.find? (fun a=>key a==k) with
 | none=>rw[hf] at h;cases h
 | some a=>exact⟨List.mem_of_find?_eq_some hf,by simpa using List.find?_some hf⟩
theorem Asc.filter{α:Type}{key:α→Int}{l:List α}(p:α→Bool)(h:Asc key l):Asc key (l.filter p):=List.Pairwise.filter p h
structure Tidy(s:Se):Prop where
 nodes:Asc (·.id) s.nodes
 apps:Asc (·.id) s.apps
theorem Tidy.dQ{s:Se}(h:Tidy s)(a:Ap):Tidy (dQ s a):=⟨h.1,h.2.put⟩
theorem Tidy.wJ{s:Se}(h:Tidy s)(a:Nd):Tidy (wJ s a):=⟨h.1.put,h.2⟩
theorem Tidy.of{s t:Se}(h:Tidy s)(h1:t.nodes=s.nodes)(h2:t.apps=s.apps):Tidy t:=⟨h1▸h.1,h2▸h.2⟩
theorem Tidy.dR{s:Se}(h:Tidy s)(id:Int):Tidy (dR s id):=by
 unfold Go.Proofs.YtehpnjmgjmkjaaaGreatDoor.dR
 cases (aD s id).2 with
 | false=>exact h
 | true =>
  cases (aD s id).1.master with
  | true=>exact(h.dQ _).of rfl rfl
  | false=>exact(h.of rfl rfl:Tidy (nD s (aD s id).1.id)).dQ _
theorem Tidy.dC{ids:List Int}:∀{s:Se},Tidy s→Tidy (dC s ids):=by
 induction ids with
 | nil=>exact fun h=>h
 | cons a ids ih=>intro s h;exact ih (h.dR a)
theorem Tidy.rC{s:Se}(h:Tidy s)(id t:Int):Tidy (rC s id t):=h.of rfl rfl
theorem qCn{n:Nat}{s:Se}{a:Ap}(hT:Tidy s)(h:SeN n s)(ha:ApN n a)(hf:(aB s a.id).2=true):SeN n (dQ s a):=by
 have hm:=qDv (key:=fun x:Ap=>x.id) hf
 refine⟨h.1,Nat.le_trans (Nat.le_of_eq (qLA hT.apps ⟨_,hm.1,hm.2⟩)) h.2,h.3,h.4,h.5,h.6,h.7,fun b hb=>?_,h.9,h.10⟩
 rcases qKh hb with e | e
 ·exact e▸ha
 ·exact h.8 b e
theorem qLB{n:Nat}{s:Se}{a:Nd}(hT:Tidy s)(h:SeN n s)(hf:(aQ s a.id).2=true):SeN n (wJ s a):=by
 have hm:=qDv (key:=fun x:Nd=>x.id) hf
 exact⟨Nat.le_trans (Nat.le_of_eq (qLA hT.nodes ⟨_,hm.1,hm.2⟩)) h.1,h.2,h.3,h.4,h.5,h.6,h.7,h.8,h.9,h.10⟩
theorem qWc{s:Se}{a:Ap}(hT:Tidy s)(id:Int):(aB (dQ s a) id).2=(decide (a.id=id)||(aB s id).2):=by
 unfold aB dQ findD
 simp only[]
 rw[qO3 (key:=fun x:Ap=>x.id) id hT.apps]
 by_cases e:a.id=id
 ·simp[e]
 ·simp[e]
theorem qGY{s:Se}{id:Int}(h:(aB s id).2=true):(aB s id).1.id=id:=(qDv (key:=fun x:Ap=>x.id) h).2
theorem qTJ{s:Se}{id:Int}(h:(aQ s id).2=true):(aQ s id).1.id=id:=(qDv (key:=fun x:Nd=>x.id) h).2
structure bI(b:Nat)(c:CfE)(s:Se):Prop where
 pot:Pot b s
 conf:s.conf=c.1
 ep:s.epoch=c.2
 good:yF c.1
 tidy:Tidy s
theorem bI.le{b d:Nat}{c:CfE}{s:Se}(h:bI b c s)(hb:b≤d):bI d c s:=⟨h.pot.le hb,h.conf,h.ep,h.good,h.tidy⟩
theorem bI.gd{b:Nat}{c:CfE}{s:Se}(h:bI b c s):yF s.conf:=h.conf▸h.good
theorem zAP(l:List Ak)(prio:Int):(qT8 l prio).length=l.length:=List.length_map _
theorem Pot.seN{b:Nat}{s:Se}(h:Pot b s):∃n,SeN n s∧n+s.conts.length≤b:=h
theorem qFD{b:Nat}{c:CfE}{s:Se}{n:Nd}{a:Ap}{x:Ak}(h:bI b c s)(ha:∀k,SeN k s→ApN k a):bI (b+3) c (nU s n a x).1:=by
 obtain⟨k,h1,h2⟩:=h.pot
 refine⟨⟨k+2,h1.nU (ha k h1),?_⟩,h.conf,h.ep,h.good,?_⟩
 ·have e:(nU s n a x).1.conts.length=s.conts.length+1:=qL2 _ _ _
  omega
 ·exact(h.tidy.of (t:={ s with conts:=qPC (·.id) (yE s n a x) s.conts,seq:=w64 (s.seq+1) }) rfl rfl).dQ _
theorem qWd{b:Nat}{c:CfE}{s:Se}{n:Nd}{id:Int}{x:Ak}(first:Bool)(h:bI b c s)(hf:(aB s id).2=true) :
  bI (b+3) c (qBg s n (aB s id).1 x first).1∧(((qBg s n (aB s id).1 x first).2.1 != 0)=false→bI b c (qBg s n (aB s id).1 x first).1∧(aB (qBg s n (aB s id).1 x first).1 id).2=true):=by
 have hid:=qGY hf
 have hsame:bI (b+3) c s∧(((0:Int) != 0)=false→bI b c s∧(aB s id).2=true):=⟨h.le (by omega),fun _=>⟨h,hf⟩⟩
 have hA:∀k,SeN k s→ApN k (aB s id).1:=fun k hk=>hk.aB id
 have hp:bI b c (dQ s { (aB s id).1 with asks:=qT8 (aB s id).1.asks x.prio })∧(aB (dQ s { (aB s id).1 with asks:=qT8 (aB s id).1.asks x.prio }) id).2=true:=by
  obtain⟨k,h1,h2⟩:=h.pot
  have ha:=hA k h1
  refine⟨⟨⟨k,qCn h.tidy h1 ⟨Nat.le_trans (Nat.le_of_eq (zAP _ _)) ha.1,ha.2,ha.3,ha.4,ha.5,ha.6⟩ (show(aB s (aB s id).1.id).2=true by rw[hid];exact hf),h2⟩,h.conf,h.ep,h.good,h.tidy.dQ _⟩,?_⟩
  rw[qWc h.tidy,hf,Bool.or_true]
 have hh:bI (b+3) c (qA7 s ⟨n.id,(aB s id).1.id,x.prio⟩):=by
  obtain⟨k,h1,h2⟩:=h.pot
  have k1:=h1.le (Nat.le_succ k)
  refine⟨⟨k+1,⟨k1.1,k1.2,k1.3,?_,k1.5,k1.6,k1.7,k1.8,k1.9,k1.10⟩,by show k+1+s.conts.length≤b+3;omega⟩,h.conf,h.ep,h.good,h.tidy.of rfl rfl⟩
  exact Nat.le_trans (Nat.le_of_eq (qL2 _ _ _)) (Nat.succ_le_succ h1.4)
 unfold qBg
 simp only[]
 cases qAA x n==4||!pU x.size n.cap||first&&!qF8 s (aB s id).1.queue x with
 | true=>exact hsame
 | false =>
  cases !qBf x n with
  | true =>
   cases first==qF8 s (aB s id).1.queue x with
   | true=>exact⟨hp.1.le (by omega),fun _=>hp⟩
   | false=>exact hsame
  | false =>
   cases !qCh s (aB s id).1.queue n.label x.size with
   | true=>exact hsame
   | false =>
    cases pU x.size (sH s n.id) with
    | true=>exact⟨qFD h hA,fun e=>absurd e (by show ¬((1:Int) != 0)=false;decide)⟩
    | false =>
     cases first&&!uC s (aB s id).1.id x.prio with
     | true=>exact⟨hh,fun e=>absurd e (by show ¬((2:Int) != 0)=false;decide)⟩
     | false=>exact hsame
end Go.Proofs.YtehpnjmgjmkjaaaGreatDoor
