/- Part of the proof: texts Bm Bn. No conditions. -/
import Derived.Test.YtlmkakccmpncjaaGreatDoorBf
set_option linter.all false
namespace Go.Proofs.YtlmkakccmpncjaaGreatDoor
open Go Go.W Go.Proofs
open Go.W.DT (ret need br bad loop join)
set_option maxRecDepth 100000
def Pot(b:Nat)(s:Se):Prop:=∃n,SeN n s∧n+s.conts.length≤b
theorem Pot.sz{b:Nat}{s:Se}(h:Pot b s):SeN b s:=by obtain⟨n,h1,h2⟩:=h;exact h1.le (by omega)
theorem Pot.ok{b:Nat}{s:Se}(h:Pot b s)(hb:b≤1000000000):dH s:=h.sz.ok hb
theorem Pot.le{b c:Nat}{s:Se}(h:Pot b s)(hb:b≤c):Pot c s:=by obtain⟨n,h1,h2⟩:=h;exact⟨n,h1,by omega⟩
theorem filter_lt{α:Type}{p:α→Bool}{l:List α}{a:α}(ha:a∈l)(hp:p a=false):(l.filter p).length<l.length :=
 r9.2 ⟨a,ha,by simp[hp]⟩
theorem qWk{s:Se}{id:Int}(h:(aL s id).2=true):(aL s id).1∈s.conts∧(aL s id).1.id=id:=by
 unfold aL findD at h ⊢
 cases hf:s.conts.find? (fun c=>c.id==id) with
 | none=>rw[hf] at h;cases h
 | some c =>
  have h1:=uf hf
  exact⟨ky hf,by simpa using h1⟩
theorem qMh{s:Se}(id:Int):(dF s id).conts.length≤s.conts.length∧((aL s id).2=true→(dF s id).conts.length<s.conts.length):=by
 unfold dF
 cases hc:(aL s id).2 with
 | false=>exact⟨df _,fun h=>by cases h⟩
 | true =>
  have hm:=qWk hc
  cases hM:(aL s id).1.master with
  | true =>
   have hlt:((s.conts.filter fun c=>!(c.app==(aL s id).1.app)).length)<s.conts.length:=filter_lt hm.1 (by simp)
   exact⟨vz hlt,fun _=>hlt⟩
  | false =>
   have hlt:((s.conts.filter fun c=>c.id != (aL s id).1.id).length)<s.conts.length:=filter_lt hm.1 (by simp)
   exact⟨vz hlt,fun _=>hlt⟩
theorem Pot.dF{b:Nat}{s:Se}(h:Pot b s)(id:Int):Pot b (dF s id):=by
 obtain⟨n,h1,h2⟩:=h
 obtain⟨g1,g2⟩:=qMh (s:=s) id
 cases hc:(aL s id).2 with
 | false =>
  have e:Go.Proofs.YtlmkakccmpncjaaGreatDoor.dF s id=s:=by unfold Go.Proofs.YtlmkakccmpncjaaGreatDoor.dF;rw[hc];rfl
  rw[e];exact⟨n,h1,h2⟩
 | true=>exact⟨n+1,h1.dF id,by have:= g2 hc;omega⟩
theorem Pot.dJ{b:Nat}{ids:List Int}:∀{s:Se},Pot b s→Pot b (dJ s ids):=by
 induction ids with
 | nil=>exact fun h=>h
 | cons a ids ih=>intro s h;exact ih (h.dF a)
theorem qPJ(s:Se)(id:Int):(dF s id).conf=s.conf∧(dF s id).now=s.now∧(dF s id).plans=s.plans∧(dF s id).epoch=s.epoch∧(dF s id).seq=s.seq∧(dF s id).nodes=s.nodes:=by
 unfold dF
 cases (aL s id).2 with
 | false=>exact⟨rfl,rfl,rfl,rfl,rfl,rfl⟩
 | true=>cases (aL s id).1.master<;>exact⟨rfl,rfl,rfl,rfl,rfl,rfl⟩
theorem yE(ids:List Int):∀s:Se,(dJ s ids).conf=s.conf∧(dJ s ids).now=s.now∧(dJ s ids).plans=s.plans∧(dJ s ids).epoch=s.epoch∧(dJ s ids).seq=s.seq∧(dJ s ids).nodes=s.nodes:=by
 induction ids with
 | nil=>exact fun s=>⟨rfl,rfl,rfl,rfl,rfl,rfl⟩
 | cons a ids ih =>
  intro s
  have h1:=ih (dF s a)
  have h2:=qPJ s a
  exact⟨h1.1.trans h2.1,h1.2.1.trans h2.2.1,h1.2.2.1.trans h2.2.2.1,h1.2.2.2.1.trans h2.2.2.2.1,h1.2.2.2.2.1.trans h2.2.2.2.2.1,h1.2.2.2.2.2.trans h2.2.2.2.2.2⟩
theorem Pot.mU{b:Nat}{s:Se}(h:Pot b s)(id t:Int):Pot b (mU s id t):=by
 obtain⟨n,h1,h2⟩:=h
 have e:(Go.Proofs.YtlmkakccmpncjaaGreatDoor.mU s id t).conts.length=s.conts.length:=by unfold Go.Proofs.YtlmkakccmpncjaaGreatDoor.mU;simp
 exact⟨n,⟨h1.1,h1.2,by rw[e];exact h1.3,h1.4,h1.5,h1.6,h1.7,h1.8,h1.9,h1.10⟩,by rw[e];exact h2⟩
def p17(s:Se)(label:Int)(c:Ct):Bool:=c.label==label&&c.notice != 0&&decide (w64 (c.notice+3)≤s.now)
def qAu(label:Int)(s:Se)(c:Ct):Se :=
 bif !(aL s c.id).2 then s
 else bif decide (w64 ((gL s (uF s (aL s c.id).1) label true 0).mem-qCs s (aL s c.id).1)>qTx s label (uF s (aL s c.id).1)) then dJ s [(aL s c.id).1.id]
 else mU s (aL s c.id).1.id 0
def rV(s:Se)(label:Int):Se:=(s.conts.filter (p17 s label)).reverse.foldl (qAu label) s
abbrev CfE:=Cf×Int
structure Round(b:Nat)(c:CfE)(s:Se):Prop where
 pot:Pot b s
 conf:s.conf=c.1
 ep:s.epoch=c.2
 good:yT c.1
theorem Round.qAu{b:Nat}{c:CfE}{s:Se}(h:Round b c s)(label:Int)(x:Ct):Round b c (qAu label s x):=by
 unfold Go.Proofs.YtlmkakccmpncjaaGreatDoor.qAu
 cases (aL s x.id).2 with
 | false=>exact h
 | true =>
  cases decide (w64 ((gL s (uF s (aL s x.id).1) label true 0).mem-qCs s (aL s x.id).1)>qTx s label (uF s (aL s x.id).1)) with
  | true=>exact⟨h.pot.dJ,(yE _ s).1.trans h.conf,(yE _ s).2.2.2.1.trans h.ep,h.good⟩
  | false=>exact⟨h.pot.mU _ _,h.conf,h.ep,h.good⟩
theorem qTy{s:Se}{b:Nat}(label:Int)(h:Round b (s.conf,s.epoch) s)(hb:b≤400000000):(qD5 s label=true∧qFZ s label=(rV s label,()))∧Round b (s.conf,s.epoch) (rV s label):=by
 have hS:=h.pot.ok (show b≤1000000000 by omega)
 have hn:=hS.conts
 have hRound:∀(l:List Ct) (v:Se),Round b (s.conf,s.epoch) v→Round b (s.conf,s.epoch) (l.foldl (qAu label) v):=by
  intro l
  induction l with
  | nil=>exact fun v h=>h
  | cons a l ih=>exact fun v h=>ih _ (h.qAu label a)
 refine⟨zGv ?_,hRound _ _ h⟩
 unfold qTa
 refine aN ((s.conts.filter (p17 s label)).reverse,()) ?_ ?_
 ·refine qX (fun st=>∃(l:List Ct) (k:Nat),st=(l,(k:Int)-1,())∧k≤s.conts.length∧l=((s.conts.drop k).filter (p17 s label)).reverse∧l.length≤s.conts.length-k) (fun st=>(st.2.1+1).toNat) ?_ ⟨[],s.conts.length,by rw[dI]<;>omega,df _,by simp,by simp⟩
  rintro _ ⟨l,k,rfl,hk,hl,hll⟩
  cases k with
  | zero =>
   right
   rw[List.drop_zero] at hl
   rw[←hl]
   refine aF ?_
   have e:decide (((0:Nat):Int)-1≥0)=false:=by decide
   simp only[sS,e]
  | succ k =>
   left
   have hk2:k<s.conts.length:=by omega
   have e1:(((k+1:Nat):Int)-1)=(k:Int):=by omega
   have e2:decide ((k:Int)≥0)=true:=by simp
   have e3:w64 ((k:Int)-1)=(k:Int)-1:=by rw[dI]<;>omega
   have hd:s.conts.drop k=s.conts.getD k dCt::s.conts.drop (k+1):=by
    rw[kv hk2];simp[List.getD,hk2]
   have hf:aT (l.length+1) 72=true:=dK (by omega) (by decide)
   rw[e1]
   refine⟨(bif p17 s label (s.conts.getD k dCt) then l++[s.conts.getD k dCt] else l,(k:Int)-1,()),aF ?_,⟨_,k,rfl,by omega,?_,?_⟩,by simp only[];omega⟩
   ·simp only[sS,e2,e3,bB hk2,hf,p17]
    cases (s.conts.getD k dCt).label==label<;>cases (s.conts.getD k dCt).notice != 0<;>cases decide (w64 ((s.conts.getD k dCt).notice+3)≤s.now)<;>simp only[sS]
   ·rw[hd,jq]
    cases p17 s label (s.conts.getD k dCt) with
    | true=>simp[hl]
    | false=>simp[hl]
   ·cases p17 s label (s.conts.getD k dCt)<;>simp<;>omega
 ·have hL:((s.conts.filter (p17 s label)).reverse).length≤1000000000:=by
   rw[List.length_reverse];exact bq (gp _ _) hn
  unfold rV
  generalize (s.conts.filter (p17 s label)).reverse=L at hL ⊢
  refine jZ L dCt (fun i (v:Se)=>(i,(v,()),())) (qAu label) (fun v=>(v,())) (fun _ v=>Round b (s.conf,s.epoch) v) (fun i v hi hI=>⟨Round.qAu hI label _,?_⟩) (fun v hI=>?_) (b0:=s) h
  ·have hI:Round b (s.conf,s.epoch) v:=hI
   have hv:=hI.pot.ok (show b≤1000000000 by omega)
   have hg:yT v.conf:=by rw[hI.conf];exact hI.good
   have hsz:=uW.2 (hI.pot.sz.le hb)
   have c1:=aL v (L.getD i dCt).id
   have a1:=nD (aB v (aL v (L.getD i dCt).id).1.app).1.queue label true 0 hv
   have a2:=qWf (aL v (L.getD i dCt).id).1 hv
   have a3:=zKj label (aB v (aL v (L.getD i dCt).id).1.app).1.queue hv hg
   have a4:=qTo (aL v (L.getD i dCt).id).1.id 0 hv
   simp only[sS,qCr,aY hi,qCv hi,aD hi hL,aK,aM.2 hv,hsz,a1.1,a1.2,a2.1,a2.2,a3.1,a3.2,a4.1,a4.2,qAu,uF]
   grind [iB,iV]
  ·simp only[sS,bE]
def zL2(s:Se):Int:=if 1>s.now then 1 else s.now
def qGk(s:Se)(id:Int):Se:=mU s id (zL2 s)
def qEB(s:Se)(label:Nat):Se:=(qBi (rV s (label:Int)) (label:Int)).foldl qGk (rV s (label:Int))
def sJ(s:Se):Se:=(List.range s.conf.labels.length).foldl qEB s
theorem Round.qGk{b:Nat}{c:CfE}{s:Se}(h:Round b c s)(id:Int):Round b c (qGk s id):=⟨h.pot.mU _ _,h.conf,h.ep,h.good⟩
theorem qNU(s:Se)(label:Int):∀(n:Nat) (l:List Int),l.length+qEA s l≤s.conts.length→(qLe s label n l).length≤s.conts.length
 | 0,l,h=>by unfold qLe;omega
 | n+1,l,h=>by
  unfold qLe
  cases decide (qCt s [] label l<qPH s label) with
  | false=>simp only[cond_false];omega
  | true =>
   cases hb:(lN s label l).1==0 with
   | true=>simp only[cond_true];omega
   | false =>
    simp only[cond_true,cond_false]
    have hne:(lN s label l).1≠0:=by simpa using hb
    have hmem:=(qLf s label l).2.resolve_left hne
    have hlt:=qNT hmem.1 hmem.2
    exact qNU s label n _ (by rw[dh,gz];omega)
theorem qWl(s:Se)(label:Int):(qBi s label).length≤s.conts.length :=
 qNU s label _ [] (by rw[gq,dm];exact gp _ _)
theorem qNV{s:Se}{b:Nat}(h:Round b (s.conf,s.epoch) s)(hb:b≤100000000):(qBa s=true∧qD6 s=(sJ s,qHr s (sJ s),()))∧Round b (s.conf,s.epoch) (sJ s):=by
 have hF:∀(l:List Int) (v:Se),Round b (s.conf,s.epoch) v→Round b (s.conf,s.epoch) (l.foldl qGk v):=by
  intro l
  induction l with
  | nil=>exact fun v h=>h
  | cons a l ih=>exact fun v h=>ih _ (h.qGk a)
 have hR:∀(v:Se) (i:Nat),Round b (s.conf,s.epoch) v→Round b (s.conf,s.epoch) (qEB v i):=by
  intro v i hv
  have hk:=(qTy (i:Int) (by rw[hv.conf,hv.ep];exact hv) (show b≤400000000 by omega)).2
  rw[hv.conf,hv.ep] at hk
  exact hF _ _ hk
 have hRs:∀n,Round b (s.conf,s.epoch) ((List.range n).foldl qEB s):=by
  intro n
  induction n with
  | zero=>exact h
  | succ n ih=>rw[dB];exact hR _ _ ih
 refine⟨zBF ?_,hRs _⟩
 unfold qNA
 have hfin:=hRs s.conf.labels.length
 refine aN ((sJ s,()),()) (qIh s.conf.labels.length (fun i (v:Se)=>(i,(v,()),())) qEB (fun v=>Sum.inl ((v,()),())) (fun _ v=>Round b (s.conf,s.epoch) v) (fun i v hi hI=>⟨hR v i hI,?_⟩) (fun v hI=>aF ?_) (b0:=s) h) ?_
 ·have hI:Round b (s.conf,s.epoch) v:=hI
  have hlab:s.conf.labels.length≤1000000000:=(h.pot.ok (by omega)).labels
  obtain⟨k1,k2⟩:=qTy (i:Int) (by rw[hI.conf,hI.ep];exact hI) (show b≤400000000 by omega)
  rw[hI.conf,hI.ep] at k2
  have hko:=k2.pot.ok (show b≤1000000000 by omega)
  have hkg:yT (rV v (i:Int)).conf:=by rw[k2.conf];exact k2.good
  have hcn:(rV v (i:Int)).conts.length≤100000000:=by obtain⟨m,m1,m2⟩:=k2.pot;omega
  have hp:=zGT (i:Int) hko hkg hcn
  have hpl:=qWl (rV v (i:Int)) (i:Int)
  refine bW (by simp only[hI.conf];exact aY hi) (aN ((qEB v i,()),()) (aH k1.1 ?_) (aF (by simp only[sS,aD hi hlab])))
  rw[k1.2]
  refine aH hp.1 ?_
  rw[hp.2]
  simp only[]
  unfold qEB
  refine jZ (qBi (rV v (i:Int)) (i:Int)) 0 (fun k (w:Se)=>(k,(w,()),())) qGk (fun w=>Sum.inl ((w,()),())) (fun _ w=>Round b (s.conf,s.epoch) w) (fun k w hk hW=>⟨Round.qGk hW _,?_⟩) (fun w hW=>?_) (b0:=rV v (i:Int)) k2
  ·have hW:Round b (s.conf,s.epoch) w:=hW
   have hq:=qTo ((qBi (rV v (i:Int)) (i:Int)).getD k 0) (if 1>w.now then 1 else w.now) (hW.pot.ok (show b≤1000000000 by omega))
   simp only[sS,bB hk,aY hk,aD hk (show(qBi (rV v (i:Int)) (i:Int)).length≤1000000000 by omega),hq.1,hq.2,qGk,zL2]
  ·simp only[sS,bE]
 ·have hI:Round b (s.conf,s.epoch) v:=hI
  simp only[sS,hI.conf,bE]
 ·refine aF ?_
  simp only[sS,aM.2 (h.pot.ok (show b≤1000000000 by omega)),aM.2 (hfin.pot.ok (show b≤1000000000 by omega)),aK]
  have e2:=aM.2 (hfin.pot.ok (show b≤1000000000 by omega))
  unfold sJ
  simp only[e2,cond_true]
def Asc{α:Type}(key:α→Int)(l:List α):Prop:=l.Pairwise fun a b=>key a<key b
theorem zGU{α:Type}(key:α→Int)(x:α):qAM key x []=[x]:=rfl
theorem qPK{α:Type}{key:α→Int}{x a:α}{l:List α}(h:key a<key x):qAM key x (a::l)=a::qAM key x l:=by
 simp[qAM,sw,h]
theorem qPL{α:Type}{key:α→Int}{x a:α}{l:List α}(h:key a=key x):qAM key x (a::l)=x::l:=by
 have h2:decide (key a<key x)=false:=by simp[h]
 simp[qAM,sw,h2,qBQ,h]
theorem qYV{α:Type}{key:α→Int}{x a:α}{l:List α}(h:key x<key a)(hl:Asc key (a::l)):qAM key x (a::l)=x::a::l:=by
 have h2:decide (key a<key x)=false:=by simp;omega
 have h3:(key a==key x)=false:=by simp;omega
 simp[qAM,sw,h2,qBQ,h3]
theorem Asc.put{α:Type}{key:α→Int}{x:α}:∀{l:List α},Asc key l→Asc key (qAM key x l)
 | [],_=>List.pairwise_singleton _ _
 | a::l,h=>by
  have h1:=ja.1 h
  rcases Int.lt_trichotomy (key a) (key x) with e | e | e
  ·rw[qPK e]
   refine ja.2 ⟨fun b hb=>?_,Asc.put h1.2⟩
   rcases qAa hb with e2 | e2
   ·rw[e2];exact e
   ·exact h1.1 b e2
  ·rw[qPL e]
   exact ja.2 ⟨fun b hb=>by have:= h1.1 b hb;show key x<key b;omega,h1.2⟩
  ·rw[qYV e h]
   exact ja.2 ⟨fun b hb=>by
    rcases fo.1 hb with e2 | e2
    ·rw[e2];exact e
    ·have:= h1.1 b e2;show key x<key b;omega,h⟩
theorem qLg{α:Type}{key:α→Int}{x:α}:∀{l:List α},Asc key l→(∃a∈l,key a=key x)→(qAM key x l).length=l.length
 | [],_,h=>by obtain⟨a,ha,_⟩:=h;cases ha
 | a::l,h,hx=>by
  have h1:=ja.1 h
  rcases Int.lt_trichotomy (key a) (key x) with e | e | e
  ·rw[qPK e,dw,dw,qLg h1.2]
   obtain⟨b,hb,e2⟩:=hx
   rcases fo.1 hb with e3 | e3
   ·rw[e3] at e2;omega
   ·exact⟨b,e3,e2⟩
  ·rw[qPL e];rfl
  ·obtain⟨b,hb,e2⟩:=hx
   rcases fo.1 hb with e3 | e3
   ·rw[e3] at e2;omega
   ·have:= h1.1 b e3;omega
theorem qNW{α:Type}{key:α→Int}{x:α}(k:Int):∀{l:List α},Asc key l→(qAM key x l).find? (fun a=>key a==k)=if key x=k then some x else l.find? (fun a=>key a==k)
 | [],_=>by
  rw[zGU]
  by_cases e:key x=k
  ·simp[List.find?,e]
  ·have e2:(key x==k)=false:=by simp[e]
   simp[List.find?,e,e2]
 | a::l,h=>by
  have h1:=ja.1 h
  rcases Int.lt_trichotomy (key a) (key x) with e | e | e
  ·rw[qPK e,ug,ug,qNW k h1.2]
   by_cases e2:key a=k
   ·have e3:¬key x=k:=by omega
    simp[e2,e3]
   ·have e3:(key a==k)=false:=by simp[e2]
    rw[e3]
  ·rw[qPL e,ug,ug]
   by_cases e2:key x=k
   ·simp[e2]
   ·have e3:(key a==k)=false:=by simp;omega
    have e4:(key x==k)=false:=by simp[e2]
    rw[e3,e4];simp[e2]
  ·rw[qYV e h,ug]
   by_cases e2:key x=k
   ·simp[e2]
   ·have e4:(key x==k)=false:=by simp[e2]
    rw[e4];simp[e2]
theorem qAv{α:Type}{key:α→Int}{d:α}{k:Int}{l:List α}(h:(findD d (fun a=>key a==k) l).2=true):(findD d (fun a=>key a==k) l).1∈l∧key (findD d (fun a=>key a==k) l).1=k:=by
 unfold findD at h ⊢
 cases hf:l.find? (fun a=>key a==k) with
 | none=>rw[hf] at h;cases h
 | some a=>exact⟨ky hf,by simpa using uf hf⟩
theorem Asc.filter{α:Type}{key:α→Int}{l:List α}(p:α→Bool)(h:Asc key l):Asc key (l.filter p):=List.Pairwise.filter p h
structure Tidy(s:Se):Prop where
 nodes:Asc (·.id) s.nodes
 apps:Asc (·.id) s.apps
theorem Tidy.dW{s:Se}(h:Tidy s)(a:Ap):Tidy (dW s a):=⟨h.1,h.2.put⟩
theorem Tidy.qAN{s:Se}(h:Tidy s)(a:Nd):Tidy (qAN s a):=⟨h.1.put,h.2⟩
theorem Tidy.of{s t:Se}(h:Tidy s)(h1:t.nodes=s.nodes)(h2:t.apps=s.apps):Tidy t:=⟨h1▸h.1,h2▸h.2⟩
theorem Tidy.dF{s:Se}(h:Tidy s)(id:Int):Tidy (dF s id):=by
 unfold Go.Proofs.YtlmkakccmpncjaaGreatDoor.dF
 cases (aL s id).2 with
 | false=>exact h
 | true =>
  cases (aL s id).1.master with
  | true=>exact(h.dW _).of rfl rfl
  | false=>exact(h.of rfl rfl:Tidy (pK s (aL s id).1.id)).dW _
theorem Tidy.dJ{ids:List Int}:∀{s:Se},Tidy s→Tidy (dJ s ids):=by
 induction ids with
 | nil=>exact fun h=>h
 | cons a ids ih=>intro s h;exact ih (h.dF a)
theorem Tidy.mU{s:Se}(h:Tidy s)(id t:Int):Tidy (mU s id t):=h.of rfl rfl
theorem qC2{n:Nat}{s:Se}{a:Ap}(hT:Tidy s)(h:SeN n s)(ha:ApN n a)(hf:(aB s a.id).2=true):SeN n (dW s a):=by
 have hm:=qAv (key:=fun x:Ap=>x.id) hf
 refine⟨h.1,bq (pg (qLg hT.apps ⟨_,hm.1,hm.2⟩)) h.2,h.3,h.4,h.5,h.6,h.7,fun b hb=>?_,h.9,h.10⟩
 rcases qAa hb with e | e
 ·exact e▸ha
 ·exact h.8 b e
theorem qLh{n:Nat}{s:Se}{a:Nd}(hT:Tidy s)(h:SeN n s)(hf:(aU s a.id).2=true):SeN n (qAN s a):=by
 have hm:=qAv (key:=fun x:Nd=>x.id) hf
 exact⟨bq (pg (qLg hT.nodes ⟨_,hm.1,hm.2⟩)) h.1,h.2,h.3,h.4,h.5,h.6,h.7,h.8,h.9,h.10⟩
theorem qWm{s:Se}{a:Ap}(hT:Tidy s)(id:Int):(aB (dW s a) id).2=(decide (a.id=id)||(aB s id).2):=by
 unfold aB dW findD
 simp only[]
 rw[qNW (key:=fun x:Ap=>x.id) id hT.apps]
 by_cases e:a.id=id
 ·simp[e]
 ·simp[e]
theorem qHz{s:Se}{id:Int}(h:(aB s id).2=true):(aB s id).1.id=id:=(qAv (key:=fun x:Ap=>x.id) h).2
theorem qTz{s:Se}{id:Int}(h:(aU s id).2=true):(aU s id).1.id=id:=(qAv (key:=fun x:Nd=>x.id) h).2
structure bJ(b:Nat)(c:CfE)(s:Se):Prop where
 pot:Pot b s
 conf:s.conf=c.1
 ep:s.epoch=c.2
 good:yT c.1
 tidy:Tidy s
theorem bJ.le{b d:Nat}{c:CfE}{s:Se}(h:bJ b c s)(hb:b≤d):bJ d c s:=⟨h.pot.le hb,h.conf,h.ep,h.good,h.tidy⟩
theorem bJ.gd{b:Nat}{c:CfE}{s:Se}(h:bJ b c s):yT s.conf:=h.conf▸h.good
theorem zCe(l:List Ak)(prio:Int):(qNP l prio).length=l.length:=jc _
theorem Pot.seN{b:Nat}{s:Se}(h:Pot b s):∃n,SeN n s∧n+s.conts.length≤b:=h
theorem qGl{b:Nat}{c:CfE}{s:Se}{n:Nd}{a:Ap}{x:Ak}(h:bJ b c s)(ha:∀k,SeN k s→ApN k a):bJ (b+3) c (mD s n a x).1:=by
 obtain⟨k,h1,h2⟩:=h.pot
 refine⟨⟨k+2,h1.mD (ha k h1),?_⟩,h.conf,h.ep,h.good,?_⟩
 ·have e:(mD s n a x).1.conts.length=s.conts.length+1:=qKZ _ _ _
  omega
 ·exact(h.tidy.of (t:={ s with conts:=qHg (·.id) (oD s n a x) s.conts,seq:=w64 (s.seq+1) }) rfl rfl).dW _
theorem qWn{b:Nat}{c:CfE}{s:Se}{n:Nd}{id:Int}{x:Ak}(first:Bool)(h:bJ b c s)(hf:(aB s id).2=true) :
  bJ (b+3) c (tQ s n (aB s id).1 x first).1∧(((tQ s n (aB s id).1 x first).2.1 != 0)=false→bJ b c (tQ s n (aB s id).1 x first).1∧(aB (tQ s n (aB s id).1 x first).1 id).2=true):=by
 have hid:=qHz hf
 have hsame:bJ (b+3) c s∧(((0:Int) != 0)=false→bJ b c s∧(aB s id).2=true):=⟨h.le (by omega),fun _=>⟨h,hf⟩⟩
 have hA:∀k,SeN k s→ApN k (aB s id).1:=fun k hk=>hk.aB id
 have hp:bJ b c (dW s { (aB s id).1 with asks:=qNP (aB s id).1.asks x.prio })∧(aB (dW s { (aB s id).1 with asks:=qNP (aB s id).1.asks x.prio }) id).2=true:=by
  obtain⟨k,h1,h2⟩:=h.pot
  have ha:=hA k h1
  refine⟨⟨⟨k,qC2 h.tidy h1 ⟨bq (pg (zCe _ _)) ha.1,ha.2,ha.3,ha.4,ha.5,ha.6⟩ (show(aB s (aB s id).1.id).2=true by rw[hid];exact hf),h2⟩,h.conf,h.ep,h.good,h.tidy.dW _⟩,?_⟩
  rw[qWm h.tidy,hf,Bool.or_true]
 have hh:bJ (b+3) c (qE0 s ⟨n.id,(aB s id).1.id,x.prio⟩):=by
  obtain⟨k,h1,h2⟩:=h.pot
  have k1:=h1.le (jv k)
  refine⟨⟨k+1,⟨k1.1,k1.2,k1.3,?_,k1.5,k1.6,k1.7,k1.8,k1.9,k1.10⟩,by show k+1+s.conts.length≤b+3;omega⟩,h.conf,h.ep,h.good,h.tidy.of rfl rfl⟩
  exact bq (pg (qKZ _ _ _)) (qg h1.4)
 unfold tQ
 simp only[]
 cases xR x n==4||!oC x.size n.cap||first&&!qCw s (aB s id).1.queue x with
 | true=>exact hsame
 | false =>
  cases !zY x n with
  | true =>
   cases first==qCw s (aB s id).1.queue x with
   | true=>exact⟨hp.1.le (by omega),fun _=>hp⟩
   | false=>exact hsame
  | false =>
   cases !qBg s (aB s id).1.queue n.label x.size with
   | true=>exact hsame
   | false =>
    cases oC x.size (wL s n.id) with
    | true=>exact⟨qGl h hA,fun e=>absurd e (by show ¬((1:Int) != 0)=false;decide)⟩
    | false =>
     cases first&&!qAO s (aB s id).1.id x.prio with
     | true=>exact⟨hh,fun e=>absurd e (by show ¬((2:Int) != 0)=false;decide)⟩
     | false=>exact hsame
end Go.Proofs.YtlmkakccmpncjaaGreatDoor
