/- Part of the proof: texts Bq Br. No conditions. -/
import Derived.Test.YtlmkakccmpncjaaGreatDoorBh
set_option linter.all false
namespace Go.Proofs.YtlmkakccmpncjaaGreatDoor
open Go Go.W Go.Proofs
open Go.W.DT (ret need br bad loop join)
set_option maxRecDepth 100000
theorem br3{α:Type}{a b c:Bool}{X T:DT α}{y:α}:(br a (br b (br c X T) T) T).G y↔(br (a&&b&&c) X T).G y:=by cases a<;>cases b<;>cases c<;>simp
theorem zGW{α β:Type}(h:α→Option β)(l:List α):l.foldl (fun v a=>sW v (h a)) []=l.filterMap h:=by rw[fold_filterMap];simp
theorem zGX{β:Type}(v:List β)(o:Option β):(sW v o).length≤v.length+1:=by cases o<;>simp[sW]
theorem zGY(s:Se)(n:Int):(qHh s n).length≤s.conts.length:=ll _ _
theorem qLl{b:Nat}{c:CfE}{s:Se}(id n:Int)(h:bJ b c s):bJ b c (jP s id n).1:=by
 unfold jP
 cases hf:(aU s id).2 with
 | false=>exact h
 | true =>
  simp only[j6,cond_false]
  cases !(aU s id).1.up with
  | true=>exact h
  | false =>
   cases decide (n<0)||decide (n<(aU s id).1.beat) with
   | true=>exact h
   | false =>
    cases decide (w64 (n-(aU s id).1.beat)>1) with
    | true=>exact h
    | false =>
     obtain⟨k,h1,h2⟩:=h.pot
     exact⟨⟨k,qLh h.tidy h1 (show(aU s (aU s id).1.id).2=true by rw[qTz hf];exact hf),h2⟩,h.conf,h.ep,h.good,h.tidy.qAN _⟩
theorem bJ.dJ{b:Nat}{c:CfE}{s:Se}(h:bJ b c s)(ids:List Int):bJ b c (dJ s ids):=⟨h.pot.dJ,(yE ids s).1.trans h.conf,(yE ids s).2.2.2.1.trans h.ep,h.good,h.tidy.dJ⟩
def qOa(t:Se)(id:Int)(l:List Int):List Int:=l.filterMap fun i=>bif (aL t i).2&&(aL t i).1.node==id then some (aL t i).1.id else none
def qPM(s:Se)(x:Ip):Se:=qWp (dJ (jP s x.id x.beat).1 (qOa (jP s x.id x.beat).1 x.id x.ids)) x.id
def qED(s:Se)(x:Ip):Se×Ou×Unit :=
 bif (aU s x.id).2&&(aU s x.id).1.up&&(aU s x.id).1.beat==x.beat then(s,⟨0,[],qHh s x.id,[],0⟩,())
 else bif (jP s x.id x.beat).2 != 0 then(s,eOu (jP s x.id x.beat).2,())
 else(qPM s x,⟨0,[],qHh (qPM s x) x.id,[],0⟩,())
theorem qC4{b:Nat}{c:CfE}{s:Se}(x:Ip)(h:bJ b c s):bJ (b+27) c (qED s x).1:=by
 unfold qED
 cases (aU s x.id).2&&(aU s x.id).1.up&&(aU s x.id).1.beat==x.beat with
 | true=>exact h.le (by omega)
 | false =>
  cases (jP s x.id x.beat).2 != 0 with
  | true=>exact h.le (by omega)
  | false=>exact qEC x.id 3 ((qLl x.id x.beat h).dJ _)
theorem zGZ{s:Se}{x:Ip}{b:Nat}{c:CfE}(h:bJ b c s)(hb:b≤80000000)(hx:x.ids.length≤100000000):qD8 s x=true∧qCl s x=qED s x:=zGy (by
 unfold qTd
 have hO:=h.pot.ok (show b≤1000000000 by omega)
 have hk:=qLl x.id x.beat h
 have hO1:=hk.pot.ok (show b≤1000000000 by omega)
 have hkl:=hk.dJ (qOa (jP s x.id x.beat).1 x.id x.ids)
 have hq:=zGV x.id hkl hb
 have hk2:bJ (b+27) c (qPM s x):=qEC x.id 3 hkl
 have hO2:=hk2.pot.ok (show b+27≤1000000000 by omega)
 simp only[aK,aM.2 hO,aW,br3]
 unfold qED
 cases (aU s x.id).2&&(aU s x.id).1.up&&(aU s x.id).1.beat==x.beat with
 | true=>simp only[cond_true,jQ];exact aF rfl
 | false =>
  simp only[cond_false,eY]
  cases (jP s x.id x.beat).2 != 0 with
  | true=>simp only[cond_true,jQ];exact aF rfl
  | false =>
   simp only[cond_false,eY]
   refine aN (qOa (jP s x.id x.beat).1 x.id x.ids,()) ?_ ?_
   ·unfold qOa
    rw[←zGW]
    refine jZ x.ids 0 (fun i (v:List Int)=>(v,i,())) (fun v a=>sW v (bif (aL (jP s x.id x.beat).1 a).2&&(aL (jP s x.id x.beat).1 a).1.node==x.id then some (aL (jP s x.id x.beat).1 a).1.id else none)) (fun v=>Sum.inl (v,())) (fun i v=>v.length≤i) (fun i v hi hI=>⟨bq (zGX _ _) (qg hI),?_⟩) (fun v hI=>?_) (b0:=[]) (df 0)
    ·have hI:v.length≤i:=hI
     have hn:x.ids.length≤1000000000:=by omega
     have hf:aT (v.length+1) 8=true:=dK (by omega) (by decide)
     simp only[sS,bB hi,aY hi,aD hi hn,aM.2 hO1,hf]
     cases (aL (jP s x.id x.beat).1 (x.ids.getD i 0)).2<;>cases (aL (jP s x.id x.beat).1 (x.ids.getD i 0)).1.node==x.id<;>simp only[sS,sW]
    ·simp only[sS,bE]
   ·have hl:(qOa (jP s x.id x.beat).1 x.id x.ids).length≤400000000:=bq (ll _ _) (by omega)
    have hl2:=qHb.2 hl
    have e1:seN 400000000 (jP s x.id x.beat).1=true:=uW.2 (hk.sn.le (by omega))
    have e2:(wS (dJ (jP s x.id x.beat).1 (qOa (jP s x.id x.beat).1 x.id x.ids)) x.id).1=qPM s x:=by rw[hq.2];rfl
    refine aF ?_
    simp only[sS,eB,hl2,e1,hq.1,e2,aM.2 hO2])
theorem Round.zHa{b:Nat}{c:CfE}{s:Se}(h:bJ b c s):Round b (s.conf,s.epoch) s:=⟨h.pot,rfl,rfl,h.gd⟩
theorem qT1{s:Se}(h:Tidy s)(label:Int):Tidy (rV s label):=by
 have: ∀(l:List Ct) (v:Se),Tidy v→Tidy (l.foldl (qAu label) v):=by
  intro l
  induction l with
  | nil=>exact fun v h=>h
  | cons a l ih =>
   refine fun v h=>ih _ ?_
   unfold qAu
   cases (aL v a.id).2 with
   | false=>exact h
   | true =>
    cases decide (w64 ((gL v (uF v (aL v a.id).1) label true 0).mem-qCs v (aL v a.id).1)>qTx v label (uF v (aL v a.id).1)) with
    | true=>exact h.dJ
    | false=>exact h.mU _ _
 exact this _ _ h
theorem qPN{s:Se}(h:Tidy s):Tidy (sJ s):=by
 have h1:∀(l:List Int) (v:Se),Tidy v→Tidy (l.foldl qGk v):=by
  intro l
  induction l with
  | nil=>exact fun v h=>h
  | cons a l ih=>exact fun v h=>ih _ (h.mU _ _)
 have h2:∀(l:List Nat) (v:Se),Tidy v→Tidy (l.foldl qEB v):=by
  intro l
  induction l with
  | nil=>exact fun v h=>h
  | cons a l ih=>exact fun v h=>ih _ (h1 _ _ (qT1 h _))
 exact h2 _ _ h
theorem qGq{b:Nat}{c:CfE}{s:Se}(h:bJ b c s)(hb:b≤100000000):bJ b c (sJ s):=by
 have h1:=(qNV (Round.zHa h) hb).2
 exact⟨h1.pot,h1.conf.trans h.conf,h1.ep.trans h.ep,h.good,qPN h.tidy⟩
def qT2(v:Se)(i:Int):Se:=dJ (dP (zZ v i) i) (qHh (dP (zZ v i) i) i)
def qT3(v:Se)(i:Int):Se:=dJ v [qKm v i]
def qAw(s:Se)(n:Int):Se:={ s with now:=w64 (s.now+n) }
def qIl(s:Se)(n:Int):Se:=(nK (qAw s n)).foldl qT2 (qAw s n)
def jR(s:Se)(n:Int):Se:=(zR (qIl s n)).foldl qT3 (qIl s n)
def qOb(s:Se)(n:Int):Se:={ jR s n with plans:=(jR s n).plans.filter fun p=>decide (p.stop>(jR s n).now) }
def qEE(s:Se)(n:Int):Se×Ou×Unit :=
 bif decide (n<1)||decide (n>100) then(s,eOu 1,()) else bif decide (w64 (s.now+n)>1000000000) then(s,eOu 11,())
 else(sJ (qOb s n),⟨0,[],[],qHr s (sJ (qOb s n)),0⟩,())
theorem qLm{b:Nat}{c:CfE}{s:Se}(id:Int)(h:bJ b c s):bJ b c (zZ s id):=by
 unfold zZ
 cases hf:(aU s id).2 with
 | false=>exact h
 | true =>
  obtain⟨k,h1,h2⟩:=h.pot
  exact⟨⟨k,qLh h.tidy h1 (show(aU s (aU s id).1.id).2=true by rw[qTz hf];exact hf),h2⟩,h.conf,h.ep,h.good,h.tidy.qAN _⟩
theorem qLn{b:Nat}{c:CfE}{s:Se}(id:Int)(h:bJ b c s):bJ b c (qT2 s id):=((qLm id h).dP id).dJ _
theorem qLo{b:Nat}{c:CfE}{s:Se}(id:Int)(h:bJ b c s):bJ b c (qT3 s id):=h.dJ _
theorem zHb{α:Type}{b:Nat}{c:CfE}{f:Se→α→Se}(hf:∀v a,bJ b c v→bJ b c (f v a)):∀(l:List α) {s:Se},bJ b c s→bJ b c (l.foldl f s)
 | [],s,h=>h
 | a::l,s,h=>zHb hf l (hf s a h)
theorem qLp{b:Nat}{c:CfE}{s:Se}(n:Int)(h:bJ b c s):bJ b c (qIl s n) :=
 zHb (fun v a hv=>qLn a hv) _ (by obtain⟨k,h1,h2⟩:=h.pot;exact⟨⟨k,⟨h1.1,h1.2,h1.3,h1.4,h1.5,h1.6,h1.7,h1.8,h1.9,h1.10⟩,h2⟩,h.conf,h.ep,h.good,h.tidy.of rfl rfl⟩)
theorem qWq{b:Nat}{c:CfE}{s:Se}(n:Int)(h:bJ b c s):bJ b c (qAw s n):=by obtain⟨k,h1,h2⟩:=h.pot;exact⟨⟨k,⟨h1.1,h1.2,h1.3,h1.4,h1.5,h1.6,h1.7,h1.8,h1.9,h1.10⟩,h2⟩,h.conf,h.ep,h.good,h.tidy.of rfl rfl⟩
theorem qLq{b:Nat}{c:CfE}{s:Se}(n:Int)(h:bJ b c s):bJ b c (jR s n):=zHb (fun v a hv=>qLo a hv) _ (qLp n h)
theorem qLr{b:Nat}{c:CfE}{s:Se}(n:Int)(h:bJ b c s):bJ b c (qOb s n):=by
 have h:=qLq n h
 unfold qOb
 generalize jR s n=t at h ⊢
 obtain⟨k,h1,h2⟩:=h.pot
 exact⟨⟨k,⟨h1.1,h1.2,h1.3,h1.4,bq (gp _ _) h1.5,h1.6,h1.7,h1.8,h1.9,h1.10⟩,h2⟩,h.conf,h.ep,h.good,h.tidy.of rfl rfl⟩
theorem qC5{b:Nat}{c:CfE}{s:Se}(n:Int)(h:bJ b c s)(hb:b≤100000000):bJ b c (qEE s n).1:=by
 unfold qEE
 cases decide (n<1)||decide (n>100) with
 | true=>exact h
 | false =>
  cases decide (w64 (s.now+n)>1000000000) with
  | true=>exact h
  | false=>exact qGq (qLr n h) hb
theorem zHc{s:Se}(n:Int){b:Nat}{c:CfE}(h:bJ b c s)(hb:b≤100000000):qD7 s n=true∧qCk s n=qEE s n:=zGw (by
 unfold qTb
 have hO:=h.pot.ok (show b≤1000000000 by omega)
 have ht0:=qWq n h
 have hO0:=ht0.pot.ok (show b≤1000000000 by omega)
 have e0:Se.mk s.conf s.nodes s.apps s.conts s.slots s.plans (w64 (s.now+n)) s.epoch s.seq=qAw s n:=rfl
 simp only[e0,aK,aM.2 hO0,aW]
 unfold qEE
 cases decide (n<1) with
 | true=>simp only[w9,cond_true,jQ];exact aF rfl
 | false =>
 cases decide (n>100) with
 | true=>simp only[Bool.or_true,cond_true,eY,jQ];exact aF rfl
 | false =>
 cases decide (w64 (s.now+n)>1000000000) with
 | true=>simp only[oq,cond_false,cond_true,eY,jQ];exact aF rfl
 | false =>
 simp only[oq,cond_false,eY]
 have ht1:=qLp n h
 have hO1:=ht1.pot.ok (show b≤1000000000 by omega)
 refine aN ((qIl s n,()),()) ?_ ?_
 ·have hl:(nK (qAw s n)).length≤1000000000:=bq (ll _ _) hO0.nodes
  refine jZ (nK (qAw s n)) 0 (fun i (v:Se)=>(i,(v,()),())) qT2 (fun v=>Sum.inl ((v,()),())) (fun _ v=>bJ b c v) (fun i v hi hI=>⟨qLn _ hI,?_⟩) (fun v hI=>?_) (b0:=qAw s n) ht0
  ·have hI:bJ b c v:=hI
   have hv:=hI.pot.ok (show b≤1000000000 by omega)
   have hd:=qLm ((nK (qAw s n)).getD i 0) hI
   have hdO:=hd.pot.ok (show b≤1000000000 by omega)
   have hs:=hd.dP ((nK (qAw s n)).getD i 0)
   have hsO:=hs.pot.ok (show b≤1000000000 by omega)
   have e1:=uW.2 (hs.sn.le (show b≤400000000 by omega))
   have e2:Nat.ble (qHh (dP (zZ v ((nK (qAw s n)).getD i 0)) ((nK (qAw s n)).getD i 0)) ((nK (qAw s n)).getD i 0)).length 400000000=true:=qHb.2 (bq (zGY _ _) (bq hs.sn.conts (by omega)))
   simp only[sS,bB hi,aY hi,aD hi hl,aM.2 hv,aM.2 hdO,aM.2 hsO,e1,e2,qT2]
  ·simp only[sS,bE]
 ·simp only[aM.2 hO1,aW]
  have ht2:=qLq n h
  have hO2:=ht2.pot.ok (show b≤1000000000 by omega)
  refine aN ((jR s n,()),()) ?_ ?_
  ·have hl:(zR (qIl s n)).length≤1000000000:=bq (ll _ _) hO1.apps
   refine jZ (zR (qIl s n)) 0 (fun i (v:Se)=>(i,(v,()),())) qT3 (fun v=>Sum.inl ((v,()),())) (fun _ v=>bJ b c v) (fun i v hi hI=>⟨qLo _ hI,?_⟩) (fun v hI=>?_) (b0:=qIl s n) ht1
   ·have hI:bJ b c v:=hI
    have hv:=hI.pot.ok (show b≤1000000000 by omega)
    have e1:=uW.2 (hI.sn.le (show b≤400000000 by omega))
    simp only[sS,bB hi,aY hi,aD hi hl,aM.2 hv,e1,qT3]
   ·simp only[sS,bE]
  ·refine aN ((jR s n).plans.filter (fun p=>decide (p.stop>(jR s n).now)),()) ?_ ?_
   ·have hp:=hO2.plans
    have ef:=fold_filter (fun p:Pn=>decide (p.stop>(jR s n).now)) (jR s n).plans []
    rw[l6] at ef
    rw[←ef]
    refine jZ (jR s n).plans dPn (fun i (v:List Pn)=>(v,i,())) (fun v p=>bif decide (p.stop>(jR s n).now) then v++[p] else v) (fun v=>Sum.inl (v,())) (fun i v=>v.length≤i) (fun i v hi hI=>⟨?_,?_⟩) (fun v hI=>?_) (b0:=[]) (df 0)
    ·have hI:v.length≤i:=hI
     cases decide (((jR s n).plans.getD i dPn).stop>(jR s n).now)<;>simp<;>omega
    ·have hI:v.length≤i:=hI
     have hf:aT (v.length+1) 48=true:=dK (by omega) (by decide)
     simp only[sS,bB hi,aY hi,aD hi hp,hf]
     cases decide (((jR s n).plans.getD i dPn).stop>(jR s n).now)<;>simp only[sS]
    ·simp only[sS,bE]
   ·have ht3:=qLr n h
    have hq:=qNV (Round.zHa ht3) hb
    have h4:=qGq ht3 hb
    have hO4:=h4.pot.ok (show b≤1000000000 by omega)
    have e3:Se.mk (jR s n).conf (jR s n).nodes (jR s n).apps (jR s n).conts (jR s n).slots ((jR s n).plans.filter fun p=>decide (p.stop>(jR s n).now)) (jR s n).now (jR s n).epoch (jR s n).seq=qOb s n:=rfl
    refine aF ?_
    simp only[sS,eB,e3,hq.1.1,hq.1.2,aM.2 hO,aM.2 hO4])
def qOc(v:Se×Ap)(i:Int):Se×Ap :=
 bif (aL v.1 i).2&&(aL v.1 i).1.app==v.2.id&&!(aL v.1 i).1.master then(pK v.1 (aL v.1 i).1.id,{ v.2 with grants:=(fB v.2.grants (aL v.1 i).1.id).1 }) else v
def fU(s:Se)(x:Ip):Se×Ap:=x.ids.foldl qOc (s,(aB s x.id).1)
def qWr(s:Se)(x:Ip):Ap:={ (fU s x).2 with asks:=(vB (s.conf.labels.length:Int) (aB s x.id).1.asks x.asks).1,seen:=(fU s x).1.now,beat:=x.beat,grants:=[],kills:=[],told:=(fU s x).2.grants,lost:=(fU s x).2.kills }
def wV(s:Se)(x:Ip):Se×Ou×Unit :=
 bif !(aB s x.id).2 then(s,eOu 2,()) else bif (aB s x.id).1.state != 2 then(s,eOu 14,()) else bif decide (x.beat<(aB s x.id).1.beat) then(s,eOu 15,())
 else bif x.beat==(aB s x.id).1.beat then(s,⟨0,qDk s (aB s x.id).1.told,vM s (aB s x.id).1.id,(aB s x.id).1.lost,0⟩,())
 else bif decide (w64 (x.beat-1)>(aB s x.id).1.beat) then(s,eOu 1,())
 else bif (vB (s.conf.labels.length:Int) (aB s x.id).1.asks x.asks).2.1 != 0 then(s,eOu (vB (s.conf.labels.length:Int) (aB s x.id).1.asks x.asks).2.1,())
 else(dW (fU s x).1 (qWr s x),⟨0,qDk (fU s x).1 (fU s x).2.grants,vM (fU s x).1 (fU s x).2.id,(fU s x).2.kills,0⟩,())
structure Given(s:Se)(a:Ap)(v:Se×Ap):Prop where
 conts:∃p:Ct→Bool,v.1 = { s with conts:=s.conts.filter p }
 app:∃g:List Int,g.length≤a.grants.length∧v.2 = { a with grants:=g }
theorem qIm{s:Se}{a:Ap}{v:Se×Ap}(i:Int)(h:Given s a v):Given s a (qOc v i):=by
 unfold qOc
 cases (aL v.1 i).2&&(aL v.1 i).1.app==v.2.id&&!(aL v.1 i).1.master with
 | false=>exact h
 | true =>
  obtain⟨p,hp⟩:=h.conts
  obtain⟨g,hg,hv⟩:=h.app
  refine⟨⟨fun c=>c.id != (aL v.1 i).1.id&&p c,?_⟩,⟨(fB v.2.grants (aL v.1 i).1.id).1,?_,?_⟩⟩
  ·show pK v.1 _=_
   generalize (aL v.1 i).1.id=q
   unfold pK
   rw[hp]
   simp[List.filter_filter]
  ·refine bq (gp _ _) ?_
   rw[hv];exact hg
  ·show({ v.2 with grants:=_ }:Ap)=_
   generalize (fB v.2.grants (aL v.1 i).1.id).1=q
   rw[hv]
theorem yU(s:Se)(x:Ip):Given s (aB s x.id).1 (fU s x):=by
 have: ∀(l:List Int) (v:Se×Ap),Given s (aB s x.id).1 v→Given s (aB s x.id).1 (l.foldl qOc v):=by
  intro l
  induction l with
  | nil=>exact fun v h=>h
  | cons a l ih=>exact fun v h=>ih _ (qIm a h)
 exact this _ _ ⟨⟨fun _=>true,by have e:s.conts.filter (fun _=>true)=s.conts:=mr.2 (fun _ _=>rfl);rw[e]⟩,⟨_,df _,rfl⟩⟩
theorem Given.keep{b:Nat}{c:CfE}{s:Se}{a:Ap}{v:Se×Ap}(h:bJ b c s)(hv:Given s a v):bJ b c v.1:=by
 obtain⟨p,hp⟩:=hv.conts
 obtain⟨k,h1,h2⟩:=h.pot
 rw[hp]
 have hl:=gp p s.conts
 exact⟨⟨k,⟨h1.1,h1.2,bq hl h1.3,h1.4,h1.5,h1.6,h1.7,h1.8,h1.9,h1.10⟩,bq (Nat.add_le_add_left hl k) h2⟩,h.conf,h.ep,h.good,h.tidy.of rfl rfl⟩
theorem yV{b:Nat}{c:CfE}{s:Se}(x:Ip)(h:bJ b c s):bJ (b+8) c (wV s x).1:=by
 unfold wV
 cases hf:(aB s x.id).2 with
 | false=>exact h.le (by omega)
 | true =>
 simp only[j6,cond_false]
 cases (aB s x.id).1.state != 2 with
 | true=>exact h.le (by omega)
 | false =>
 cases decide (x.beat<(aB s x.id).1.beat) with
 | true=>exact h.le (by omega)
 | false =>
 cases x.beat==(aB s x.id).1.beat with
 | true=>exact h.le (by omega)
 | false =>
 cases decide (w64 (x.beat-1)>(aB s x.id).1.beat) with
 | true=>exact h.le (by omega)
 | false =>
 cases (vB (s.conf.labels.length:Int) (aB s x.id).1.asks x.asks).2.1 != 0 with
 | true=>exact h.le (by omega)
 | false =>
 simp only[cond_false]
 have hg:=yU s x
 have hk:=Given.keep h hg
 obtain⟨k,h1,h2⟩:=h.pot
 obtain⟨p,hp⟩:=hg.conts
 obtain⟨g,hg1,hg2⟩:=hg.app
 have hl:=gp p s.conts
 have hA:=h1.aB x.id
 have hw:(vB (s.conf.labels.length:Int) (aB s x.id).1.asks x.asks).1.length≤(aB s x.id).1.asks.length+8:=bq qIg (by omega)
 have h18:=h1.le (ny k 8)
 have hid:(qWr s x).id=x.id:=by show(fU s x).2.id=x.id;rw[hg2];exact qHz hf
 refine⟨⟨k+8,qC2 hk.tidy ?_ ⟨?_,cz _,cz _,?_,?_,?_⟩ ?_,?_⟩,hk.conf,hk.ep,h.good,hk.tidy.dW _⟩
 ·rw[hp];exact⟨h18.1,h18.2,bq hl h18.3,h18.4,h18.5,h18.6,h18.7,h18.8,h18.9,h18.10⟩
 ·exact bq hw (Nat.add_le_add_right hA.asks 8)
 ·show(fU s x).2.grants.length≤k+8
  rw[hg2];exact bq hg1 (bq hA.grants (ny k 8))
 ·show(fU s x).2.kills.length≤k+8
  rw[hg2];exact bq hA.kills (ny k 8)
 ·show(fU s x).2.queue.length≤k+8
  rw[hg2];exact bq hA.queue (ny k 8)
 ·rw[hid,hp];exact hf
 ·show k+8+(fU s x).1.conts.length≤b+8
  rw[hp];show k+8+(s.conts.filter p).length≤b+8;omega
theorem oU{b:Nat}{c:CfE}{s:Se}(id st:Int)(h:bJ b c s):bJ b c (wT s id st).1:=by
 unfold wT qBV
 cases hf:(aB s id).2 with
 | false=>exact h
 | true =>
 cases hl:live (aB s id).1 with
 | false=>exact h
 | true =>
  obtain⟨k,h1,h2⟩:=h.pot
  have hA:=h1.aB id
  have hp:=qC2 (a:={ (aB s id).1 with state:=st,asks:=[],grants:=[],kills:=[],told:=[],lost:=[] }) h.tidy h1 ⟨cz _,cz _,cz _,cz _,cz _,hA.queue⟩ (show(aB s (aB s id).1.id).2=true by rw[qHz hf];exact hf)
  refine⟨⟨k,hp.rD id,?_⟩,h.conf,h.ep,h.good,(h.tidy.dW _).of rfl rfl⟩
  have: (rD (dW s { (aB s id).1 with state:=st,asks:=[],grants:=[],kills:=[],told:=[],lost:=[] }) id).1.conts.length≤s.conts.length:=gp _ _
  exact bq (Nat.add_le_add_left this k) h2
theorem qPO(l:List Ap):∀v:Bool×List Ap,∃m,m.Sublist l∧(l.foldl fC v).2=v.2++m:=by
 induction l with
 | nil=>exact fun v=>⟨[],pz _,by simp⟩
 | cons a l ih =>
  intro v
  obtain⟨m,h1,h2⟩:=ih (fC v a)
  rw[List.foldl,h2]
  unfold fC
  cases !v.1&&!live a with
  | true=>exact⟨m,h1.cons _,rfl⟩
  | false=>exact⟨a::m,h1.cons_cons _,by simp⟩
theorem qMi{b:Nat}{c:CfE}{s:Se}(h:bJ b c s):bJ b c (jN s):=by
 obtain⟨k,h1,h2⟩:=h.pot
 refine⟨⟨k,h1.jN,h2⟩,h.conf,h.ep,h.good,h.tidy.nodes,?_⟩
 obtain⟨m,hm,e⟩:=qPO s.apps (false,[])
 show Asc _ (s.apps.foldl fC (false,[])).2
 rw[e,l6]
 exact List.Pairwise.sublist hm h.tidy.apps
theorem qOd{n:Nat}{c:Cf}{path:B}(h:CfN n c)(hf:(dM c path).2=true):path.length≤n:=by
 unfold dM findD at hf
 cases hq:c.queues.find? (fun q=>q.path==path) with
 | none=>rw[hq] at hf;cases hf
 | some q =>
  have h1:=uf hq
  have h2:=(h.qu q (ky hq)).2
  have h3:q.path=path:=by simpa using h1
  rw[←h3];exact h2
theorem yX{b:Nat}{c:CfE}{s:Se}(a:Ap)(h:bJ b c s):bJ (b+1) c (kH s a).1:=by
 unfold kH
 cases decide (a.id<0)||decide (a.id>9999)||decide (a.user<0)||decide (a.user>99)||decide (a.prio<0)||decide (a.prio>9)||!wK a.master.mem||!wK a.master.cores with
 | true=>exact h.le (by omega)
 | false =>
 cases (aB s a.id).2 with
 | true=>exact h.le (by omega)
 | false =>
 cases decide (alive s.apps≥16) with
 | true=>exact h.le (by omega)
 | false =>
 cases hl:mP s.conf a.queue with
 | false=>exact h.le (by omega)
 | true =>
 simp only[cond_false,j6]
 have hq:∀k,SeN k s→a.queue.length≤k:=fun k hk=>qOd hk.conf (by unfold mP at hl;simp at hl;exact hl.1)
 have hk:∀t:Se,bJ b c t→t.conf=s.conf→bJ (b+1) c (dW t ⟨a.id,1,a.queue,a.user,a.prio,a.master,xQ a,s.now,0,[],[],[],[]⟩):=by
  intro t ht he
  obtain⟨k,h1,h2⟩:=ht.pot
  have hq2:a.queue.length≤k:=qOd h1.conf (by rw[he];unfold mP at hl;simp at hl;exact hl.1)
  refine⟨⟨k+1,h1.dW ⟨?_,cz _,cz _,cz _,cz _,p8 hq2⟩,by show k+1+t.conts.length≤b+1;omega⟩,ht.conf,ht.ep,h.good,ht.tidy.dW _⟩
  exact Nat.le_add_left 1 k
 cases decide ((s.apps.length:Int)≥16) with
 | true=>exact hk _ (qMi h) rfl
 | false=>exact hk _ h rfl
theorem wW{b:Nat}{c:CfE}{s:Se}(n:Nd)(h:bJ b c s):bJ (b+1) c (iL s n).1:=by
 have hp:∀n:Nd,bJ (b+1) c (qAN s n):=fun n=>by
  obtain⟨k,h1,h2⟩:=h.pot
  exact⟨⟨k+1,h1.qAN n,by show k+1+s.conts.length≤b+1;omega⟩,h.conf,h.ep,h.good,h.tidy.qAN _⟩
 unfold iL
 repeat' (first | exact h.le (by omega) | exact hp _ | (rw[Bool.cond_eq_ite];split))
theorem qC6{b:Nat}{c:CfE}{s:Se}(id:Int)(h:bJ b c s):bJ b c (rE s id).1:=by
 unfold rE
 cases ((s.plans.filter fun a=>a.id != id).length:Int)==(s.plans.length:Int) with
 | true=>exact h
 | false =>
  obtain⟨k,h1,h2⟩:=h.pot
  exact⟨⟨k,⟨h1.1,h1.2,h1.3,h1.4,bq (gp _ _) h1.5,h1.6,h1.7,h1.8,h1.9,h1.10⟩,h2⟩,h.conf,h.ep,h.good,h.tidy.of rfl rfl⟩
theorem qEF{b:Nat}{c:CfE}{s:Se}(p:Pn)(long:Int)(h:bJ b c s):bJ (b+1) c (qGh s p long).1:=by
 have hp:∀(k:Nat) (x:Pn),bJ (b+1) c { s with plans:=(s.plans.take k++[x])++s.plans.drop k }:=fun j x=>by
  obtain⟨k,h1,h2⟩:=h.pot
  have h1':=h1.le (jv k)
  refine⟨⟨k+1,⟨h1'.1,h1'.2,h1'.3,h1'.4,?_,h1'.6,h1'.7,h1'.8,h1'.9,h1'.10⟩,by show k+1+s.conts.length≤b+1;omega⟩,h.conf,h.ep,h.good,h.tidy.of rfl rfl⟩
  have:= h1.5
  simp only[dh,ed,il,gz];omega
 unfold qGh
 simp only[]
 repeat' (first | exact h.le (by omega) | exact hp _ _ | (rw[Bool.cond_eq_ite];split))
theorem qWs{s:Se}{x:Ip}{b:Nat}{c:CfE}(h:bJ b c s)(hb:b≤100000000)(hx:x.ids.length≤100000000)(hx2:x.asks.length≤100000000):xX s x=true∧wO s x=wV s x:=qVT (by
 unfold qKP
 have hO:=h.pot.ok (show b≤1000000000 by omega)
 have hA:=h.sn.aB x.id
 have htold:sm (aB s x.id).1.told.length=true:=eH.2 (bq hA.told (by omega))
 have hlost:aT (aB s x.id).1.lost.length 8=true:=dK (bq hA.lost (by omega)) (by decide)
 have hw:=zBW (s:=s) (l:=(aB s x.id).1.asks) (more:=x.asks) (bq hA.asks (by omega)) (by omega)
 have hg0:Given s (aB s x.id).1 (s,(aB s x.id).1):=⟨⟨fun _=>true,by have e:s.conts.filter (fun _=>true)=s.conts:=mr.2 (fun _ _=>rfl);rw[e]⟩,⟨_,df _,rfl⟩⟩
 have hgv:=yU s x
 have hgk:=Given.keep h hgv
 have hgO:=hgk.pot.ok (show b≤1000000000 by omega)
 simp only[aM.2 hO,aK,aW,hw.1,hw.2,htold]
 unfold wV
 cases (aB s x.id).2 with
 | false=>exact uT rfl
 | true =>
 simp only[j6,cond_false,tV]
 cases (aB s x.id).1.state != 2 with
 | true=>simp only[tT];exact uT rfl
 | false =>
 simp only[tV,cond_false]
 cases decide (x.beat<(aB s x.id).1.beat) with
 | true=>simp only[tT];exact uT rfl
 | false =>
 simp only[tV,cond_false]
 cases x.beat==(aB s x.id).1.beat with
 | true =>
  simp only[tT,cond_true]
  refine aF ?_
  simp only[sS,hlost,eB]
 | false =>
 simp only[tV,cond_false]
 cases decide (w64 (x.beat-1)>(aB s x.id).1.beat) with
 | true=>simp only[tT];exact uT rfl
 | false =>
 simp only[tV,cond_false]
 refine aN ((dSe,()),(dOu,()),()) rfl ?_
 cases (vB (s.conf.labels.length:Int) (aB s x.id).1.asks x.asks).2.1 != 0 with
 | true=>simp only[jQ,aW,cond_true];exact aF rfl
 | false =>
 simp only[eY,aW,cond_false]
 refine aN (((fU s x).1,()),((fU s x).2,()),()) ?_ ?_
 ·refine jZ x.ids 0 (fun i (v:Se×Ap)=>(i,(v.1,()),(v.2,()),())) qOc (fun v=>Sum.inl ((v.1,()),(v.2,()),())) (fun _ v=>Given s (aB s x.id).1 v) (fun i v hi hI=>⟨qIm _ hI,?_⟩) (fun v hI=>?_) (b0:=(s,(aB s x.id).1)) hg0
  ·have hI:Given s (aB s x.id).1 v:=hI
   have hv:=(Given.keep h hI).pot.ok (show b≤1000000000 by omega)
   have hs:sm v.2.grants.length=true:=by
    obtain⟨g,h1,h2⟩:=hI.app
    rw[h2];exact eH.2 (bq h1 (bq hA.grants (by omega)))
   simp only[sS,bB hi,aY hi,aD hi (show x.ids.length≤1000000000 by omega),aM.2 hv,hs,qOc]
   cases (aL v.1 (x.ids.getD i 0)).2<;>cases (aL v.1 (x.ids.getD i 0)).1.app==v.2.id<;>cases (aL v.1 (x.ids.getD i 0)).1.master<;>simp only[sS]
  ·simp only[sS,bE]
 ·have e1:sm (fU s x).2.grants.length=true:=by
   obtain⟨g,h1,h2⟩:=hgv.app
   rw[h2];exact eH.2 (bq h1 (bq hA.grants (by omega)))
  have e2:aT (fU s x).2.kills.length 8=true:=by
   obtain⟨g,h1,h2⟩:=hgv.app
   rw[h2];exact dK (bq hA.kills (by omega)) (by decide)
  have hS:=aM.2 hgO
  refine aF ?_
  simp only[sS,e1,e2,hS,eB,qWr])
end Go.Proofs.YtlmkakccmpncjaaGreatDoor
