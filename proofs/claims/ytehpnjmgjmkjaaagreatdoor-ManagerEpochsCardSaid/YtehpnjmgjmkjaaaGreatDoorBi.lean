/- Part of the proof. No conditions. -/
import Derived.Test.YtehpnjmgjmkjaaaGreatDoorBh
namespace Go.Proofs.YtehpnjmgjmkjaaaGreatDoor
open Go Go.W Go.Proofs
open Go.W.DT (ret need br bad loop join)
set_option maxRecDepth 100000
theorem br3{α:Type}{a b c:Bool}{X T:DT α}{y:α}:(br a (br b (br c X T) T) T).G y↔(br (a&&b&&c) X T).G y:=by cases a<;>cases b<;>cases c<;>simp
theorem zFn{α β:Type}(h:α→Option β)(l:List α):l.foldl (fun v a=>sF v (h a)) []=l.filterMap h:=by rw[fold_filterMap];simp
theorem zFo{β:Type}(v:List β)(o:Option β):(sF v o).length≤v.length+1:=by cases o<;>simp[sF]
theorem zFp(s:Se)(n:Int):(qG1 s n).length≤s.conts.length:=List.length_filterMap_le _ _
theorem qLG{b:Nat}{c:CfE}{s:Se}(id n:Int)(h:bI b c s):bI b c (dA s id n).1:=by
 unfold dA
 cases hf:(aQ s id).2 with
 | false=>exact h
 | true =>
  simp only[Bool.not_true,cond_false]
  cases !(aQ s id).1.up with
  | true=>exact h
  | false =>
   cases decide (n<0)||decide (n<(aQ s id).1.beat) with
   | true=>exact h
   | false =>
    cases decide (w64 (n-(aQ s id).1.beat)>1) with
    | true=>exact h
    | false =>
     obtain⟨k,h1,h2⟩:=h.pot
     exact⟨⟨k,qLB h.tidy h1 (show(aQ s (aQ s id).1.id).2=true by rw[qTJ hf];exact hf),h2⟩,h.conf,h.ep,h.good,h.tidy.wJ _⟩
theorem bI.dC{b:Nat}{c:CfE}{s:Se}(h:bI b c s)(ids:List Int):bI b c (dC s ids):=⟨h.pot.dC,(xK ids s).1.trans h.conf,(xK ids s).2.2.2.1.trans h.ep,h.good,h.tidy.dC⟩
def qO7(t:Se)(id:Int)(l:List Int):List Int:=l.filterMap fun i=>bif (aD t i).2&&(aD t i).1.node==id then some (aD t i).1.id else none
def qQ1(s:Se)(x:Ip):Se:=qWf (dC (dA s x.id x.beat).1 (qO7 (dA s x.id x.beat).1 x.id x.ids)) x.id
def qLH(s:Se)(x:Ip):Se×Ou×Unit :=
 bif (aQ s x.id).2&&(aQ s x.id).1.up&&(aQ s x.id).1.beat==x.beat then(s,⟨0,[],qG1 s x.id,[],0⟩,())
 else bif (dA s x.id x.beat).2 != 0 then(s,eOu (dA s x.id x.beat).2,())
 else(qQ1 s x,⟨0,[],qG1 (qQ1 s x) x.id,[],0⟩,())
theorem qCp{b:Nat}{c:CfE}{s:Se}(x:Ip)(h:bI b c s):bI (b+27) c (qLH s x).1:=by
 unfold qLH
 cases (aQ s x.id).2&&(aQ s x.id).1.up&&(aQ s x.id).1.beat==x.beat with
 | true=>exact h.le (by omega)
 | false =>
  cases (dA s x.id x.beat).2 != 0 with
  | true=>exact h.le (by omega)
  | false=>exact qEx x.id 3 ((qLG x.id x.beat h).dC _)
theorem zFq{s:Se}{x:Ip}{b:Nat}{c:CfE}(h:bI b c s)(hb:b≤80000000)(hx:x.ids.length≤100000000):qDp s x=true∧qBV s x=qLH s x:=zEH (by
 unfold qTz
 have hO:=h.pot.ok (show b≤1000000000 by omega)
 have hk:=qLG x.id x.beat h
 have hO1:=hk.pot.ok (show b≤1000000000 by omega)
 have hkl:=hk.dC (qO7 (dA s x.id x.beat).1 x.id x.ids)
 have hq:=zFm x.id hkl hb
 have hk2:bI (b+27) c (qQ1 s x):=qEx x.id 3 hkl
 have hO2:=hk2.pot.ok (show b+27≤1000000000 by omega)
 simp only[aN,aO.2 hO,bH,br3]
 unfold qLH
 cases (aQ s x.id).2&&(aQ s x.id).1.up&&(aQ s x.id).1.beat==x.beat with
 | true=>simp only[cond_true,jP];exact aF rfl
 | false =>
  simp only[cond_false,fI]
  cases (dA s x.id x.beat).2 != 0 with
  | true=>simp only[cond_true];exact aF rfl
  | false =>
   simp only[cond_false]
   refine aT (qO7 (dA s x.id x.beat).1 x.id x.ids,()) ?_ ?_
   ·unfold qO7
    rw[←zFn]
    refine kF x.ids 0 (fun i (v:List Int)=>(v,i,())) (fun v a=>sF v (bif (aD (dA s x.id x.beat).1 a).2&&(aD (dA s x.id x.beat).1 a).1.node==x.id then some (aD (dA s x.id x.beat).1 a).1.id else none)) (fun v=>Sum.inl (v,())) (fun i v=>v.length≤i) (fun i v hi hI=>⟨Nat.le_trans (zFo _ _) (Nat.succ_le_succ hI),?_⟩) (fun v hI=>?_) (b0:=[]) (Nat.le_refl 0)
    ·have hI:v.length≤i:=hI
     have hn:x.ids.length≤1000000000:=by omega
     have hf:aX (v.length+1) 8=true:=eF (by omega) (by decide)
     simp only[sS,bG hi,bF hi,aG hi hn,aO.2 hO1,hf]
     cases (aD (dA s x.id x.beat).1 (x.ids.getD i 0)).2<;>cases (aD (dA s x.id x.beat).1 (x.ids.getD i 0)).1.node==x.id<;>simp only[sS,sF]
    ·simp only[sS,bM]
   ·have hl:(qO7 (dA s x.id x.beat).1 x.id x.ids).length≤400000000:=Nat.le_trans (List.length_filterMap_le _ _) (by omega)
    have hl2:=qGw.2 hl
    have e1:seN 400000000 (dA s x.id x.beat).1=true:=uD.2 (hk.sn.le (by omega))
    have e2:(jN (dC (dA s x.id x.beat).1 (qO7 (dA s x.id x.beat).1 x.id x.ids)) x.id).1=qQ1 s x:=by rw[hq.2];rfl
    refine aF ?_
    simp only[sS,hl2,e1,hq.1,e2,aO.2 hO2])
theorem Round.zFr{b:Nat}{c:CfE}{s:Se}(h:bI b c s):Round b (s.conf,s.epoch) s:=⟨h.pot,rfl,rfl,h.gd⟩
theorem qTL{s:Se}(h:Tidy s)(label:Int):Tidy (rF s label):=by
 have: ∀(l:List Ct) (v:Se),Tidy v→Tidy (l.foldl (qCm label) v):=by
  intro l
  induction l with
  | nil=>exact fun v h=>h
  | cons a l ih =>
   refine fun v h=>ih _ ?_
   unfold qCm
   cases (aD v a.id).2 with
   | false=>exact h
   | true =>
    cases decide (w64 ((gV v (tN v (aD v a.id).1) label true 0).mem-qCb v (aD v a.id).1)>qTH v label (tN v (aD v a.id).1)) with
    | true=>exact h.dC
    | false=>exact h.rC _ _
 exact this _ _ h
theorem qQ2{s:Se}(h:Tidy s):Tidy (uH s):=by
 have h1:∀(l:List Int) (v:Se),Tidy v→Tidy (l.foldl qFC v):=by
  intro l
  induction l with
  | nil=>exact fun v h=>h
  | cons a l ih=>exact fun v h=>ih _ (h.rC _ _)
 have h2:∀(l:List Nat) (v:Se),Tidy v→Tidy (l.foldl qEw v):=by
  intro l
  induction l with
  | nil=>exact fun v h=>h
  | cons a l ih=>exact fun v h=>ih _ (h1 _ _ (qTL h _))
 exact h2 _ _ h
theorem qFH{b:Nat}{c:CfE}{s:Se}(h:bI b c s)(hb:b≤100000000):bI b c (uH s):=by
 have h1:=(qO2 (Round.zFr h) hb).2
 exact⟨h1.pot,h1.conf.trans h.conf,h1.ep.trans h.ep,h.good,qQ2 h.tidy⟩
def qY2(v:Se)(i:Int):Se:=dC (bQ (wU v i) i) (qG1 (bQ (wU v i) i) i)
def qY3(v:Se)(i:Int):Se:=dC v [qJW v i]
def qBh(s:Se)(n:Int):Se:={ s with now:=w64 (s.now+n) }
def qLI(s:Se)(n:Int):Se:=(dY (qBh s n)).foldl qY2 (qBh s n)
def jV(s:Se)(n:Int):Se:=(sG (qLI s n)).foldl qY3 (qLI s n)
def qTM(s:Se)(n:Int):Se:={ jV s n with plans:=(jV s n).plans.filter fun p=>decide (p.stop>(jV s n).now) }
def qLJ(s:Se)(n:Int):Se×Ou×Unit :=
 bif decide (n<1)||decide (n>100) then(s,eOu 1,()) else bif decide (w64 (s.now+n)>1000000000) then(s,eOu 11,())
 else(uH (qTM s n),⟨0,[],[],qGB s (uH (qTM s n)),0⟩,())
theorem qLK{b:Nat}{c:CfE}{s:Se}(id:Int)(h:bI b c s):bI b c (wU s id):=by
 unfold wU
 cases hf:(aQ s id).2 with
 | false=>exact h
 | true =>
  obtain⟨k,h1,h2⟩:=h.pot
  exact⟨⟨k,qLB h.tidy h1 (show(aQ s (aQ s id).1.id).2=true by rw[qTJ hf];exact hf),h2⟩,h.conf,h.ep,h.good,h.tidy.wJ _⟩
theorem qLL{b:Nat}{c:CfE}{s:Se}(id:Int)(h:bI b c s):bI b c (qY2 s id):=((qLK id h).bQ id).dC _
theorem qLM{b:Nat}{c:CfE}{s:Se}(id:Int)(h:bI b c s):bI b c (qY3 s id):=h.dC _
theorem zFs{α:Type}{b:Nat}{c:CfE}{f:Se→α→Se}(hf:∀v a,bI b c v→bI b c (f v a)):∀(l:List α) {s:Se},bI b c s→bI b c (l.foldl f s)
 | [],_s,h=>h
 | a::l,s,h=>zFs hf l (hf s a h)
theorem qLN{b:Nat}{c:CfE}{s:Se}(n:Int)(h:bI b c s):bI b c (qLI s n) :=
 zFs (fun v a hv=>qLL a hv) _ (by obtain⟨k,h1,h2⟩:=h.pot;exact⟨⟨k,⟨h1.1,h1.2,h1.3,h1.4,h1.5,h1.6,h1.7,h1.8,h1.9,h1.10⟩,h2⟩,h.conf,h.ep,h.good,h.tidy.of rfl rfl⟩)
theorem qWg{b:Nat}{c:CfE}{s:Se}(n:Int)(h:bI b c s):bI b c (qBh s n):=by obtain⟨k,h1,h2⟩:=h.pot;exact⟨⟨k,⟨h1.1,h1.2,h1.3,h1.4,h1.5,h1.6,h1.7,h1.8,h1.9,h1.10⟩,h2⟩,h.conf,h.ep,h.good,h.tidy.of rfl rfl⟩
theorem qLO{b:Nat}{c:CfE}{s:Se}(n:Int)(h:bI b c s):bI b c (jV s n):=zFs (fun _v a hv=>qLM a hv) _ (qLN n h)
theorem qLP{b:Nat}{c:CfE}{s:Se}(n:Int)(h:bI b c s):bI b c (qTM s n):=by
 have h:=qLO n h
 unfold qTM
 generalize jV s n=t at h ⊢
 obtain⟨k,h1,h2⟩:=h.pot
 exact⟨⟨k,⟨h1.1,h1.2,h1.3,h1.4,Nat.le_trans (List.length_filter_le _ _) h1.5,h1.6,h1.7,h1.8,h1.9,h1.10⟩,h2⟩,h.conf,h.ep,h.good,h.tidy.of rfl rfl⟩
theorem qCq{b:Nat}{c:CfE}{s:Se}(n:Int)(h:bI b c s)(hb:b≤100000000):bI b c (qLJ s n).1:=by
 unfold qLJ
 cases decide (n<1)||decide (n>100) with
 | true=>exact h
 | false =>
  cases decide (w64 (s.now+n)>1000000000) with
  | true=>exact h
  | false=>exact qFH (qLP n h) hb
theorem zFt{s:Se}(n:Int){b:Nat}{c:CfE}(h:bI b c s)(hb:b≤100000000):qDo s n=true∧qBU s n=qLJ s n:=zEF (by
 unfold qTx
 have hO:=h.pot.ok (show b≤1000000000 by omega)
 have ht0:=qWg n h
 have hO0:=ht0.pot.ok (show b≤1000000000 by omega)
 have e0:Se.mk s.conf s.nodes s.apps s.conts s.slots s.plans (w64 (s.now+n)) s.epoch s.seq=qBh s n:=rfl
 simp only[e0,aN,aO.2 hO0]
 unfold qLJ
 cases decide (n<1) with
 | true=>simp only[Bool.true_or,cond_true,jP];exact aF rfl
 | false =>
 cases decide (n>100) with
 | true=>simp only[Bool.or_true,cond_true,fI,jP];exact aF rfl
 | false =>
 cases decide (w64 (s.now+n)>1000000000) with
 | true=>simp only[Bool.or_false,cond_false,cond_true,fI,jP];exact aF rfl
 | false =>
 simp only[Bool.or_false,cond_false,fI]
 have ht1:=qLN n h
 have hO1:=ht1.pot.ok (show b≤1000000000 by omega)
 refine aT ((qLI s n,()),()) ?_ ?_
 ·have hl:(dY (qBh s n)).length≤1000000000:=Nat.le_trans (List.length_filterMap_le _ _) hO0.nodes
  refine kF (dY (qBh s n)) 0 (fun i (v:Se)=>(i,(v,()),())) qY2 (fun v=>Sum.inl ((v,()),())) (fun _ v=>bI b c v) (fun i v hi hI=>⟨qLL _ hI,?_⟩) (fun v hI=>?_) (b0:=qBh s n) ht0
  ·have hI:bI b c v:=hI
   have hv:=hI.pot.ok (show b≤1000000000 by omega)
   have hd:=qLK ((dY (qBh s n)).getD i 0) hI
   have hdO:=hd.pot.ok (show b≤1000000000 by omega)
   have hs:=hd.bQ ((dY (qBh s n)).getD i 0)
   have hsO:=hs.pot.ok (show b≤1000000000 by omega)
   have e1:=uD.2 (hs.sn.le (show b≤400000000 by omega))
   have e2:Nat.ble (qG1 (bQ (wU v ((dY (qBh s n)).getD i 0)) ((dY (qBh s n)).getD i 0)) ((dY (qBh s n)).getD i 0)).length 400000000=true:=qGw.2 (Nat.le_trans (zFp _ _) (Nat.le_trans hs.sn.conts (by omega)))
   simp only[sS,bG hi,bF hi,aG hi hl,aO.2 hv,aO.2 hdO,aO.2 hsO,e1,e2,qY2]
  ·simp only[sS,bM]
 ·simp only[aO.2 hO1,bH]
  have ht2:=qLO n h
  have hO2:=ht2.pot.ok (show b≤1000000000 by omega)
  refine aT ((jV s n,()),()) ?_ ?_
  ·have hl:(sG (qLI s n)).length≤1000000000:=Nat.le_trans (List.length_filterMap_le _ _) hO1.apps
   refine kF (sG (qLI s n)) 0 (fun i (v:Se)=>(i,(v,()),())) qY3 (fun v=>Sum.inl ((v,()),())) (fun _ v=>bI b c v) (fun i v hi hI=>⟨qLM _ hI,?_⟩) (fun v hI=>?_) (b0:=qLI s n) ht1
   ·have hI:bI b c v:=hI
    have hv:=hI.pot.ok (show b≤1000000000 by omega)
    have e1:=uD.2 (hI.sn.le (show b≤400000000 by omega))
    simp only[sS,bG hi,bF hi,aG hi hl,aO.2 hv,e1,qY3]
   ·simp only[sS,bM]
  ·refine aT ((jV s n).plans.filter (fun p=>decide (p.stop>(jV s n).now)),()) ?_ ?_
   ·have hp:=hO2.plans
    have ef:=fold_filter (fun p:Pn=>decide (p.stop>(jV s n).now)) (jV s n).plans []
    rw[List.nil_append] at ef
    rw[←ef]
    refine kF (jV s n).plans dPn (fun i (v:List Pn)=>(v,i,())) (fun v p=>bif decide (p.stop>(jV s n).now) then v++[p] else v) (fun v=>Sum.inl (v,())) (fun i v=>v.length≤i) (fun i v hi hI=>⟨?_,?_⟩) (fun v hI=>?_) (b0:=[]) (Nat.le_refl 0)
    ·have hI:v.length≤i:=hI
     cases decide (((jV s n).plans.getD i dPn).stop>(jV s n).now)<;>simp<;>omega
    ·have hI:v.length≤i:=hI
     have hf:aX (v.length+1) 48=true:=eF (by omega) (by decide)
     simp only[sS,bG hi,bF hi,aG hi hp,hf]
     cases decide (((jV s n).plans.getD i dPn).stop>(jV s n).now)<;>simp only[sS]
    ·simp only[sS,bM]
   ·have ht3:=qLP n h
    have hq:=qO2 (Round.zFr ht3) hb
    have h4:=qFH ht3 hb
    have hO4:=h4.pot.ok (show b≤1000000000 by omega)
    have e3:Se.mk (jV s n).conf (jV s n).nodes (jV s n).apps (jV s n).conts (jV s n).slots ((jV s n).plans.filter fun p=>decide (p.stop>(jV s n).now)) (jV s n).now (jV s n).epoch (jV s n).seq=qTM s n:=rfl
    refine aF ?_
    simp only[sS,e3,hq.1.1,hq.1.2,aO.2 hO,aO.2 hO4])
def qO8(v:Se×Ap)(i:Int):Se×Ap :=
 bif (aD v.1 i).2&&(aD v.1 i).1.app==v.2.id&&!(aD v.1 i).1.master then(nD v.1 (aD v.1 i).1.id,{ v.2 with grants:=(fA v.2.grants (aD v.1 i).1.id).1 }) else v
def gN(s:Se)(x:Ip):Se×Ap:=x.ids.foldl qO8 (s,(aB s x.id).1)
def qWh(s:Se)(x:Ip):Ap:={ (gN s x).2 with asks:=(uG (s.conf.labels.length:Int) (aB s x.id).1.asks x.asks).1,seen:=(gN s x).1.now,beat:=x.beat,grants:=[],kills:=[],told:=(gN s x).2.grants,lost:=(gN s x).2.kills }
def qCr(s:Se)(x:Ip):Se×Ou×Unit :=
 bif !(aB s x.id).2 then(s,eOu 2,()) else bif (aB s x.id).1.state != 2 then(s,eOu 14,()) else bif decide (x.beat<(aB s x.id).1.beat) then(s,eOu 15,())
 else bif x.beat==(aB s x.id).1.beat then(s,⟨0,qCV s (aB s x.id).1.told,uS s (aB s x.id).1.id,(aB s x.id).1.lost,0⟩,())
 else bif decide (w64 (x.beat-1)>(aB s x.id).1.beat) then(s,eOu 1,())
 else bif (uG (s.conf.labels.length:Int) (aB s x.id).1.asks x.asks).2.1 != 0 then(s,eOu (uG (s.conf.labels.length:Int) (aB s x.id).1.asks x.asks).2.1,())
 else(dQ (gN s x).1 (qWh s x),⟨0,qCV (gN s x).1 (gN s x).2.grants,uS (gN s x).1 (gN s x).2.id,(gN s x).2.kills,0⟩,())
structure Given(s:Se)(a:Ap)(v:Se×Ap):Prop where
 conts:∃p:Ct→Bool,v.1 = { s with conts:=s.conts.filter p }
 app:∃g:List Int,g.length≤a.grants.length∧v.2 = { a with grants:=g }
theorem qHX{s:Se}{a:Ap}{v:Se×Ap}(i:Int)(h:Given s a v):Given s a (qO8 v i):=by
 unfold qO8
 cases (aD v.1 i).2&&(aD v.1 i).1.app==v.2.id&&!(aD v.1 i).1.master with
 | false=>exact h
 | true =>
  obtain⟨p,hp⟩:=h.conts
  obtain⟨g,hg,hv⟩:=h.app
  refine⟨⟨fun c=>c.id != (aD v.1 i).1.id&&p c,?_⟩,⟨(fA v.2.grants (aD v.1 i).1.id).1,?_,?_⟩⟩
  ·show nD v.1 _=_
   generalize (aD v.1 i).1.id=q
   unfold nD
   rw[hp]
   simp[List.filter_filter]
  ·refine Nat.le_trans (List.length_filter_le _ _) ?_
   rw[hv];exact hg
  ·show({ v.2 with grants:=_ }:Ap)=_
   generalize (fA v.2.grants (aD v.1 i).1.id).1=q
   rw[hv]
theorem qDH(s:Se)(x:Ip):Given s (aB s x.id).1 (gN s x):=by
 have: ∀(l:List Int) (v:Se×Ap),Given s (aB s x.id).1 v→Given s (aB s x.id).1 (l.foldl qO8 v):=by
  intro l
  induction l with
  | nil=>exact fun v h=>h
  | cons a l ih=>exact fun v h=>ih _ (qHX a h)
 exact this _ _ ⟨⟨fun _=>true,by have e:s.conts.filter (fun _=>true)=s.conts:=List.filter_eq_self.2 (fun _ _=>rfl);rw[e]⟩,⟨_,Nat.le_refl _,rfl⟩⟩
theorem Given.keep{b:Nat}{c:CfE}{s:Se}{a:Ap}{v:Se×Ap}(h:bI b c s)(hv:Given s a v):bI b c v.1:=by
 obtain⟨p,hp⟩:=hv.conts
 obtain⟨k,h1,h2⟩:=h.pot
 rw[hp]
 have hl:=List.length_filter_le p s.conts
 exact⟨⟨k,⟨h1.1,h1.2,Nat.le_trans hl h1.3,h1.4,h1.5,h1.6,h1.7,h1.8,h1.9,h1.10⟩,Nat.le_trans (Nat.add_le_add_left hl k) h2⟩,h.conf,h.ep,h.good,h.tidy.of rfl rfl⟩
theorem yG{b:Nat}{c:CfE}{s:Se}(x:Ip)(h:bI b c s):bI (b+8) c (qCr s x).1:=by
 unfold qCr
 cases hf:(aB s x.id).2 with
 | false=>exact h.le (by omega)
 | true =>
 simp only[Bool.not_true,cond_false]
 cases (aB s x.id).1.state != 2 with
 | true=>exact h.le (by omega)
 | false =>
 cases decide (x.beat<(aB s x.id).1.beat) with
 | true=>exact h.le (by omega)
 | false =>
 cases x.beat==(aB s x.id).1.beat with
 | true=>exact h.le (by omega)
 | false =>
 cases decide (w64 (x.beat-1)>(aB s x.id).1.beat) with
 | true=>exact h.le (by omega)
 | false =>
 cases (uG (s.conf.labels.length:Int) (aB s x.id).1.asks x.asks).2.1 != 0 with
 | true=>exact h.le (by omega)
 | false =>
 simp only[cond_false]
 have hg:=qDH s x
 have hk:=Given.keep h hg
 obtain⟨k,h1,h2⟩:=h.pot
 obtain⟨p,hp⟩:=hg.conts
 obtain⟨g,hg1,hg2⟩:=hg.app
 have hl:=List.length_filter_le p s.conts
 have hA:=h1.aB x.id
 have hw:(uG (s.conf.labels.length:Int) (aB s x.id).1.asks x.asks).1.length≤(aB s x.id).1.asks.length+8:=Nat.le_trans qHR (by omega)
 have h18:=h1.le (Nat.le_add_right k 8)
 have hid:(qWh s x).id=x.id:=by show(gN s x).2.id=x.id;rw[hg2];exact qGY hf
 refine⟨⟨k+8,qCn hk.tidy ?_ ⟨?_,Nat.zero_le _,Nat.zero_le _,?_,?_,?_⟩ ?_,?_⟩,hk.conf,hk.ep,h.good,hk.tidy.dQ _⟩
 ·rw[hp];exact⟨h18.1,h18.2,Nat.le_trans hl h18.3,h18.4,h18.5,h18.6,h18.7,h18.8,h18.9,h18.10⟩
 ·exact Nat.le_trans hw (Nat.add_le_add_right hA.asks 8)
 ·show(gN s x).2.grants.length≤k+8
  rw[hg2];exact Nat.le_trans hg1 (Nat.le_trans hA.grants (Nat.le_add_right k 8))
 ·show(gN s x).2.kills.length≤k+8
  rw[hg2];exact Nat.le_trans hA.kills (Nat.le_add_right k 8)
 ·show(gN s x).2.queue.length≤k+8
  rw[hg2];exact Nat.le_trans hA.queue (Nat.le_add_right k 8)
 ·rw[hid,hp];exact hf
 ·show k+8+(gN s x).1.conts.length≤b+8
  rw[hp];show k+8+(s.conts.filter p).length≤b+8;omega
theorem pF{b:Nat}{c:CfE}{s:Se}(id st:Int)(h:bI b c s):bI b c (qAT s id st).1:=by
 unfold qAT qDF
 cases hf:(aB s id).2 with
 | false=>exact h
 | true =>
 cases hl:live (aB s id).1 with
 | false=>exact h
 | true =>
  obtain⟨k,h1,h2⟩:=h.pot
  have hA:=h1.aB id
  have hp:=qCn (a:={ (aB s id).1 with state:=st,asks:=[],grants:=[],kills:=[],told:=[],lost:=[] }) h.tidy h1 ⟨Nat.zero_le _,Nat.zero_le _,Nat.zero_le _,Nat.zero_le _,Nat.zero_le _,hA.queue⟩ (show(aB s (aB s id).1.id).2=true by rw[qGY hf];exact hf)
  refine⟨⟨k,hp.nE id,?_⟩,h.conf,h.ep,h.good,(h.tidy.dQ _).of rfl rfl⟩
  have: (nE (dQ s { (aB s id).1 with state:=st,asks:=[],grants:=[],kills:=[],told:=[],lost:=[] }) id).1.conts.length≤s.conts.length:=List.length_filter_le _ _
  exact Nat.le_trans (Nat.add_le_add_left this k) h2
theorem qQ3(l:List Ap):∀v:Bool×List Ap,∃m,m.Sublist l∧(l.foldl gJ v).2=v.2++m:=by
 induction l with
 | nil=>exact fun v=>⟨[],List.Sublist.refl _,by simp⟩
 | cons a l ih =>
  intro v
  obtain⟨m,h1,h2⟩:=ih (gJ v a)
  rw[List.foldl,h2]
  unfold gJ
  cases !v.1&&!live a with
  | true=>exact⟨m,h1.cons _,rfl⟩
  | false=>exact⟨a::m,h1.cons_cons _,by simp⟩
theorem qM1{b:Nat}{c:CfE}{s:Se}(h:bI b c s):bI b c (lQ s):=by
 obtain⟨k,h1,h2⟩:=h.pot
 refine⟨⟨k,h1.lQ,h2⟩,h.conf,h.ep,h.good,h.tidy.nodes,?_⟩
 obtain⟨m,hm,e⟩:=qQ3 s.apps (false,[])
 show Asc _ (s.apps.foldl gJ (false,[])).2
 rw[e,List.nil_append]
 exact List.Pairwise.sublist hm h.tidy.apps
theorem qO9{n:Nat}{c:Cf}{path:B}(h:CfN n c)(hf:(dO c path).2=true):path.length≤n:=by
 unfold dO findD at hf
 cases hq:c.queues.find? (fun q=>q.path==path) with
 | none=>rw[hq] at hf;cases hf
 | some q =>
  have h1:=List.find?_some hq
  have h2:=(h.qu q (List.mem_of_find?_eq_some hq)).2
  have h3:q.path=path:=by simpa using h1
  rw[←h3];exact h2
theorem yH{b:Nat}{c:CfE}{s:Se}(a:Ap)(h:bI b c s):bI (b+1) c (lT s a).1:=by
 unfold lT
 cases decide (a.id<0)||decide (a.id>9999)||decide (a.user<0)||decide (a.user>99)||decide (a.prio<0)||decide (a.prio>9)||!vT a.master.mem||!vT a.master.cores with
 | true=>exact h.le (by omega)
 | false =>
 cases (aB s a.id).2 with
 | true=>exact h.le (by omega)
 | false =>
 cases decide (alive s.apps≥16) with
 | true=>exact h.le (by omega)
 | false =>
 cases hl:nA s.conf a.queue with
 | false=>exact h.le (by omega)
 | true =>
 simp only[cond_false,Bool.not_true]
 have hq:∀k,SeN k s→a.queue.length≤k:=fun k hk=>qO9 hk.conf (by unfold nA at hl;simp at hl;exact hl.1)
 have hk:∀t:Se,bI b c t→t.conf=s.conf→bI (b+1) c (dQ t ⟨a.id,1,a.queue,a.user,a.prio,a.master,wT a,s.now,0,[],[],[],[]⟩):=by
  intro t ht he
  obtain⟨k,h1,h2⟩:=ht.pot
  have hq2:a.queue.length≤k:=qO9 h1.conf (by rw[he];unfold nA at hl;simp at hl;exact hl.1)
  refine⟨⟨k+1,h1.dQ ⟨?_,Nat.zero_le _,Nat.zero_le _,Nat.zero_le _,Nat.zero_le _,Nat.le_succ_of_le hq2⟩,by show k+1+t.conts.length≤b+1;omega⟩,ht.conf,ht.ep,h.good,ht.tidy.dQ _⟩
  exact Nat.le_add_left 1 k
 cases decide ((s.apps.length:Int)≥16) with
 | true=>exact hk _ (qM1 h) rfl
 | false=>exact hk _ h rfl
theorem wF{b:Nat}{c:CfE}{s:Se}(n:Nd)(h:bI b c s):bI (b+1) c (jK s n).1:=by
 have hp:∀n:Nd,bI (b+1) c (wJ s n):=fun n=>by
  obtain⟨k,h1,h2⟩:=h.pot
  exact⟨⟨k+1,h1.wJ n,by show k+1+s.conts.length≤b+1;omega⟩,h.conf,h.ep,h.good,h.tidy.wJ _⟩
 unfold jK
 repeat' (first | exact h.le (by omega) | exact hp _ | (rw[Bool.cond_eq_ite];split))
theorem qCs{b:Nat}{c:CfE}{s:Se}(id:Int)(h:bI b c s):bI b c (vU s id).1:=by
 unfold vU
 cases ((s.plans.filter fun a=>a.id != id).length:Int)==(s.plans.length:Int) with
 | true=>exact h
 | false =>
  obtain⟨k,h1,h2⟩:=h.pot
  exact⟨⟨k,⟨h1.1,h1.2,h1.3,h1.4,Nat.le_trans (List.length_filter_le _ _) h1.5,h1.6,h1.7,h1.8,h1.9,h1.10⟩,h2⟩,h.conf,h.ep,h.good,h.tidy.of rfl rfl⟩
theorem qEy{b:Nat}{c:CfE}{s:Se}(p:Pn)(long:Int)(h:bI b c s):bI (b+1) c (qL4 s p long).1:=by
 have hp:∀(k:Nat) (x:Pn),bI (b+1) c { s with plans:=(s.plans.take k++[x])++s.plans.drop k }:=fun j x=>by
  obtain⟨k,h1,h2⟩:=h.pot
  have h1':=h1.le (Nat.le_succ k)
  refine⟨⟨k+1,⟨h1'.1,h1'.2,h1'.3,h1'.4,?_,h1'.6,h1'.7,h1'.8,h1'.9,h1'.10⟩,by show k+1+s.conts.length≤b+1;omega⟩,h.conf,h.ep,h.good,h.tidy.of rfl rfl⟩
  have:= h1.5
  simp only[List.length_append,List.length_take,List.length_drop,List.length_singleton];omega
 unfold qL4
 simp only[]
 repeat' (first | exact h.le (by omega) | exact hp _ _ | (rw[Bool.cond_eq_ite];split))
theorem qWi{s:Se}{x:Ip}{b:Nat}{c:CfE}(h:bI b c s)(hb:b≤100000000)(hx:x.ids.length≤100000000)(hx2:x.asks.length≤100000000):xA s x=true∧vY s x=qCr s x:=qVN (by
 unfold qLl
 have hO:=h.pot.ok (show b≤1000000000 by omega)
 have hA:=h.sn.aB x.id
 have htold:sm (aB s x.id).1.told.length=true:=eX.2 (Nat.le_trans hA.told (by omega))
 have hlost:aX (aB s x.id).1.lost.length 8=true:=eF (Nat.le_trans hA.lost (by omega)) (by decide)
 have hw:=zAH (s:=s) (l:=(aB s x.id).1.asks) (more:=x.asks) (Nat.le_trans hA.asks (by omega)) (by omega)
 have hg0:Given s (aB s x.id).1 (s,(aB s x.id).1):=⟨⟨fun _=>true,by have e:s.conts.filter (fun _=>true)=s.conts:=List.filter_eq_self.2 (fun _ _=>rfl);rw[e]⟩,⟨_,Nat.le_refl _,rfl⟩⟩
 have hgv:=qDH s x
 have hgk:=Given.keep h hgv
 have hgO:=hgk.pot.ok (show b≤1000000000 by omega)
 simp only[aO.2 hO,aN,bH,hw.1,hw.2,htold]
 unfold qCr
 cases (aB s x.id).2 with
 | false=>exact rQ rfl
 | true =>
 simp only[Bool.not_true,cond_false,tC]
 cases (aB s x.id).1.state != 2 with
 | true=>simp only[sZ];exact rQ rfl
 | false =>
 simp only[tC,cond_false]
 cases decide (x.beat<(aB s x.id).1.beat) with
 | true=>simp only[sZ];exact rQ rfl
 | false =>
 simp only[tC,cond_false]
 cases x.beat==(aB s x.id).1.beat with
 | true =>
  simp only[sZ,cond_true]
  refine aF ?_
  simp only[sS,hlost]
 | false =>
 simp only[tC,cond_false]
 cases decide (w64 (x.beat-1)>(aB s x.id).1.beat) with
 | true=>simp only[sZ];exact rQ rfl
 | false =>
 simp only[tC,cond_false]
 refine aT ((dSe,()),(dOu,()),()) rfl ?_
 cases (uG (s.conf.labels.length:Int) (aB s x.id).1.asks x.asks).2.1 != 0 with
 | true=>simp only[jP,bH,cond_true];exact aF rfl
 | false =>
 simp only[fI,bH,cond_false]
 refine aT (((gN s x).1,()),((gN s x).2,()),()) ?_ ?_
 ·refine kF x.ids 0 (fun i (v:Se×Ap)=>(i,(v.1,()),(v.2,()),())) qO8 (fun v=>Sum.inl ((v.1,()),(v.2,()),())) (fun _ v=>Given s (aB s x.id).1 v) (fun i v hi hI=>⟨qHX _ hI,?_⟩) (fun v hI=>?_) (b0:=(s,(aB s x.id).1)) hg0
  ·have hI:Given s (aB s x.id).1 v:=hI
   have hv:=(Given.keep h hI).pot.ok (show b≤1000000000 by omega)
   have hs:sm v.2.grants.length=true:=by
    obtain⟨g,h1,h2⟩:=hI.app
    rw[h2];exact eX.2 (Nat.le_trans h1 (Nat.le_trans hA.grants (by omega)))
   simp only[sS,bG hi,bF hi,aG hi (show x.ids.length≤1000000000 by omega),aO.2 hv,hs,qO8]
   cases (aD v.1 (x.ids.getD i 0)).2<;>cases (aD v.1 (x.ids.getD i 0)).1.app==v.2.id<;>cases (aD v.1 (x.ids.getD i 0)).1.master<;>simp only[sS]
  ·simp only[sS,bM]
 ·have e1:sm (gN s x).2.grants.length=true:=by
   obtain⟨g,h1,h2⟩:=hgv.app
   rw[h2];exact eX.2 (Nat.le_trans h1 (Nat.le_trans hA.grants (by omega)))
  have e2:aX (gN s x).2.kills.length 8=true:=by
   obtain⟨g,h1,h2⟩:=hgv.app
   rw[h2];exact eF (Nat.le_trans hA.kills (by omega)) (by decide)
  have hS:=aO.2 hgO
  refine aF ?_
  simp only[sS,e1,e2,hS,qWh])
end Go.Proofs.YtehpnjmgjmkjaaaGreatDoor
