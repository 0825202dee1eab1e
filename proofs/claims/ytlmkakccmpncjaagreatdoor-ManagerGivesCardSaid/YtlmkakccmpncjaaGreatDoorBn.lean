/- Part of the proof: texts Ea. No conditions. -/
import Derived.Test.YtlmkakccmpncjaaGreatDoorBm
set_option linter.all false
noncomputable section
namespace Go.Proofs.YtlmkakccmpncjaaGreatDoor
open Go Go.W Go.Proofs
open Go.W.DT (ret need br bad loop join)
set_option maxRecDepth 100000
structure Whole(c:Cf):Prop where
 labels:0<c.labels.length
 leaf:kD c≠[]
theorem qGx{c:Cf}(h:uG c=0):Whole c:=by
 obtain⟨h1,h2,h3,h4⟩:=qGr h
 have hg:=(qCA h).1
 refine⟨?_,qOi 6 dZ hg.deep (qLs (bL (d:=dQu) h2) h3)⟩
 unfold sM at h1
 cases hx:decide ((c.labels.length:Int)<1)||decide ((c.labels.length:Int)>3)||decide ((c.queues.length:Int)>16) with
 | true=>rw[hx] at h1;simp at h1
 | false=>simp at hx;omega
theorem qMl(s:Se)(text:B):(kJ s text).1.conf=s.conf∨uG (kJ s text).1.conf=0:=by
 unfold kJ
 cases he:nN text != 0 with
 | true=>exact .inl rfl
 | false =>
 cases decide (((fH text).1.labels.length:Int)<(s.conf.labels.length:Int)) with
 | true=>exact .inl rfl
 | false =>
 cases (List.range' 0 (s.conf.labels.length-0)).any (fun i=>!((fH text).1.labels.getD i []==s.conf.labels.getD i [])) with
 | true=>exact .inl rfl
 | false =>
 cases s.apps.any (fun a=>live a&&!mP (fH text).1 a.queue) with
 | true=>exact .inl rfl
 | false =>
  right
  have he:nN text=0:=by simpa using he
  unfold nN at he
  cases hz:(fH text).2.1==0 with
  | true=>rw[hz] at he;exact he
  | false=>rw[hz] at he;simp at he hz;exact absurd he hz
theorem qTD{b:Nat}{s:Se}(x:Ip)(h:qCD b s)(hb:b≤80000000):(kC s x).1.conf=s.conf∨uG (kC s x).1.conf=0:=by
 have K:=h.keep
 unfold kC
 cases x.kind==1 with
 | true=>exact qMl s x.text
 | false =>
 cases x.kind==2 with
 | true=>exact .inl (wW x.node K).conf
 | false =>
 cases x.kind==3 with
 | true=>exact .inl (qC4 x K).conf
 | false =>
 cases x.kind==4 with
 | true=>exact .inl (yX x.app K).conf
 | false =>
 cases x.kind==5 with
 | true=>exact .inl (yV x K).conf
 | false =>
 cases x.kind==6 with
 | true=>exact .inl (oU x.id 3 K).conf
 | false =>
 cases x.kind==7 with
 | true=>exact .inl (oU x.id 4 K).conf
 | false =>
 cases x.kind==8 with
 | true=>exact .inl (qC5 x.n K (by omega)).conf
 | false =>
 cases x.kind==9 with
 | true=>exact .inl (qEF x.plan x.n K).conf
 | false =>
 cases x.kind==10 with
 | true=>exact .inl (qC6 x.id K).conf
 | false =>
 cases x.kind==11 with
 | false=>exact .inl rfl
 | true=>cases decide (s.epoch≥1048576)<;>exact .inl rfl
theorem qTE(s:Se)(text:B):(kJ s text).1.epoch=s.epoch:=by
 unfold kJ
 cases nN text != 0 with
 | true=>rfl
 | false =>
 cases decide (((fH text).1.labels.length:Int)<(s.conf.labels.length:Int)) with
 | true=>rfl
 | false =>
 cases (List.range' 0 (s.conf.labels.length-0)).any (fun i=>!((fH text).1.labels.getD i []==s.conf.labels.getD i [])) with
 | true=>rfl
 | false =>
 cases s.apps.any (fun a=>live a&&!mP (fH text).1 a.queue)<;>rfl
theorem qOk{b:Nat}{s:Se}(x:Ip)(h:qCD b s)(hb:b≤80000000)(h0:0≤s.epoch):s.epoch≤(kC s x).1.epoch∧(kC s x).1.epoch≤s.epoch+1:=by
 have K:=h.keep
 have e:∀t:Se,t.epoch=s.epoch→s.epoch≤t.epoch∧t.epoch≤s.epoch+1:=fun t h=>by omega
 unfold kC
 cases x.kind==1 with
 | true=>exact e _ (qTE s x.text)
 | false =>
 cases x.kind==2 with
 | true=>exact e _ (wW x.node K).ep
 | false =>
 cases x.kind==3 with
 | true=>exact e _ (qC4 x K).ep
 | false =>
 cases x.kind==4 with
 | true=>exact e _ (yX x.app K).ep
 | false =>
 cases x.kind==5 with
 | true=>exact e _ (yV x K).ep
 | false =>
 cases x.kind==6 with
 | true=>exact e _ (oU x.id 3 K).ep
 | false =>
 cases x.kind==7 with
 | true=>exact e _ (oU x.id 4 K).ep
 | false =>
 cases x.kind==8 with
 | true=>exact e _ (qC5 x.n K (by omega)).ep
 | false =>
 cases x.kind==9 with
 | true=>exact e _ (qEF x.plan x.n K).ep
 | false =>
 cases x.kind==10 with
 | true=>exact e _ (qC6 x.id K).ep
 | false =>
 cases x.kind==11 with
 | false=>exact e _ rfl
 | true =>
  cases hc:decide (s.epoch≥1048576) with
  | true=>exact e _ rfl
  | false =>
   have hc:¬s.epoch≥1048576:=by simpa using hc
   show s.epoch≤w64 (s.epoch+1)∧w64 (s.epoch+1)≤s.epoch+1
   rw[dI (by omega) (by omega)];omega
theorem qGy{b:Nat}{s:Se}(x:Ip)(h:qCD b s)(hb:b≤80000000)(hw:Whole s.conf):Whole (kC s x).1.conf:=by
 rcases qTD x h hb with e | e
 ·rw[e];exact hw
 ·exact qGx e
def iX:Se:=⟨⟨[[]],[⟨dZ,[⟨10000,10000⟩],10000⟩]⟩,[],[],[],[],[],0,0,0⟩
structure zL5:Prop where
 ok:qGc=true
 eq:qD9=(iX,())
theorem qIq:uG iX.conf=0:=by
 unfold uG qYY sM iX
 decide
def qW5(s:Se)(a:Act):Se:=(kC s (qBj a s)).1
theorem rY:qCD 10 iX:=by
 have hg:=(qCA qIq).1
 refine⟨⟨⟨10,⟨by decide,by decide,by decide,by decide,by decide,by decide,by decide,fun a ha=>(by cases ha),fun q hq=>?_,fun l hl=>?_⟩,by decide⟩,rfl,rfl,hg,⟨List.Pairwise.nil,List.Pairwise.nil⟩⟩⟩
 ·have: q=⟨dZ,[⟨10000,10000⟩],10000⟩:=ib.1 hq
  rw[this];decide
 ·have: l=[]:=ib.1 hl
  rw[this];decide
def qCF(x:Scr):Se :=
 bif (kC iX ⟨1,0,0,0,qAx (lZ x.shape x.ns).1,dNd,dAp,[],[],dPn⟩).2.1.err==0 then(kC iX ⟨1,0,0,0,qAx (lZ x.shape x.ns).1,dNd,dAp,[],[],dPn⟩).1 else iX
def qH5(x:Scr):Se:=x.acts.foldl qW5 (qCF x)
structure Reached(n:Nat)(s:Se):Prop where
 fine:qCD (2010+2000*n) s
 whole:Whole s.conf
 ep0:0≤s.epoch
 ep:s.epoch≤1+n
theorem qGz{n:Nat}{s:Se}(a:Act)(h:Reached n s)(hn:n≤1000):Reached (n+1) (qW5 s a) :=
 by
 have he:=qOk (qBj a s) h.fine (by omega) h.ep0
 have h1:=h.ep0
 have h2:=h.ep
 exact⟨(qIp _ h.fine (by omega)).le (by omega),qGy _ h.fine (by omega) h.whole,Int.le_trans h1 he.1,by show(kC s (qBj a s)).1.epoch≤1+((n+1:Nat):Int);omega⟩
theorem qLy(x:Scr):Reached 0 (qCF x):=by
 have hw:=qGx qIq
 unfold qCF
 cases (kC iX ⟨1,0,0,0,qAx (lZ x.shape x.ns).1,dNd,dAp,[],[],dPn⟩).2.1.err==0 with
 | true =>
  have he:=qOk ⟨1,0,0,0,qAx (lZ x.shape x.ns).1,dNd,dAp,[],[],dPn⟩ rY (by decide) (by decide)
  exact⟨qIp _ rY (by decide),qGy _ rY (by decide) hw,he.1,by have h2:=he.2;rw[show iX.epoch=0 from rfl] at h2;exact h2⟩
 | false=>exact⟨rY.le (by decide),hw,(by decide:(0:Int)≤0),(by decide:(0:Int)≤1+((0:Nat):Int))⟩
theorem qPT(l:List Act):∀{n:Nat} {s:Se},Reached n s→n+l.length≤1000→Reached (n+l.length) (l.foldl qW5 s):=by
 induction l with
 | nil=>exact fun h _=>h
 | cons a l ih =>
  intro n s h hn
  rw[dw] at hn ⊢
  have:= ih (qGz a h (by omega)) (by omega)
  rw[List.foldl]
  have e:n+(l.length+1)=n+1+l.length:=by omega
  rw[e];exact this
theorem zHq{x:Scr}(hg:qW3)(hN:zL5)(hx:x.acts.length≤80):(qDD x=true∧qGd x=(qH5 x,()))∧Reached x.acts.length (qH5 x):=by
 have hr0:=qLy x
 have hall:Reached x.acts.length (qH5 x):=by
  have:= qPT x.acts hr0 (by omega)
  rw[dm] at this;exact this
 refine⟨zGB ?_,hall⟩
 unfold qTm
 have gt:=qZe (hg.good x.shape x.ns)
 have q1:=qT7 (b:=10) (s:=iX) (x:=⟨1,0,0,0,qAx (lZ x.shape x.ns).1,dNd,dAp,[],[],dPn⟩) rY (by decide) ⟨cz _,cz _⟩
 simp only[hN.ok,hN.eq,hg.ok x.shape x.ns,gt.1.1,gt.1.2,q1.1,q1.2,aW]
 refine aN ((qCF x,()),()) ?_ ?_
 ·unfold qCF
  cases (kC iX ⟨1,0,0,0,qAx (lZ x.shape x.ns).1,dNd,dAp,[],[],dPn⟩).2.1.err==0<;>exact aF rfl
 ·unfold qH5
  generalize qCF x=s0 at hr0
  refine nM x.acts zDJ (fun i (v:Se)=>(i,(v,()),())) qW5 (fun v=>(v,())) (fun i v=>Reached i v) (fun i v hi hv=>⟨qGz _ hv (by omega),aF ?_⟩) (fun v hv=>aF ?_) (b0:=s0) hr0
  ·have hv:Reached i v:=hv
   have hb:2010+2000*i≤80000000:=by omega
   have hO:=hv.fine.ok (show 2010+2000*i≤1000000000 by omega)
   have qi:=zHp (a:=x.acts.getD i zDJ) hg hO hv.whole.labels hv.whole.leaf
   have hc:v.conts.length≤100000000:=bq hv.fine.keep.sn.conts (by omega)
   have qs:=qT7 hv.fine hb (qW4 (a:=x.acts.getD i zDJ) hc)
   simp only[eG,dD,cB,aY hi,bB hi,di,qi.1,qi.2,qs.1,qs.2,cond_true,aD hi (show x.acts.length≤1000000000 by omega),qW5]
  ·simp only[sS,bE]
theorem zPg:zL5:=⟨(qYQ (r:=(iX,())) rfl).1,(qYQ (r:=(iX,())) rfl).2⟩
end Go.Proofs.YtlmkakccmpncjaaGreatDoor
