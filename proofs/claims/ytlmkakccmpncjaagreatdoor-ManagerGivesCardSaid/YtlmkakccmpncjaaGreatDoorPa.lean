/- Part of the proof: texts Pa Pb. No conditions. -/
import Derived.Test.YtlmkakccmpncjaaGreatDoorBn
import Derived.Test.YtlmkakccmpncjaaGreatDoorKb
set_option linter.all false
namespace Go.Proofs.YtlmkakccmpncjaaGreatDoor
open Go Go.W Go.Proofs
set_option maxRecDepth 100000
def In64(n:Int):Prop:=-9223372036854775808≤n∧n≤9223372036854775807
theorem zQq{c:Bool}{a b:Int}(h:In64 a)(g:In64 b):In64 (bif c then a else b):=by
 cases c
 ·exact g
 ·exact h
theorem qQc{c:Bool}{a b:Ip}(h:In64 a.beat)(g:In64 b.beat):In64 (bif c then a else b).beat:=by
 cases c
 ·exact g
 ·exact h
theorem zIs(n:Int):In64 (w64 n):=by
 show _≤IntKind.i64.wrap n∧IntKind.i64.wrap n≤_
 rw[IntKind.wrap_i64];omega
def qTT(k:Nat)(s:Se):Prop:=∀a∈s.apps,0≤a.beat∧a.beat≤k
structure Low(s t:Se):Prop where
 ids:(t.conts.map (·.id)).Sublist (s.conts.map (·.id))
 ep:t.epoch=s.epoch
 seq:t.seq=s.seq
 beat:∀k,qTT k s→qTT k t
theorem Low.refl(s:Se):Low s s:=⟨pz _,rfl,rfl,fun _ h=>h⟩
theorem Low.trans{r s t:Se}(h:Low r s)(g:Low s t):Low r t:=⟨g.1.trans h.1,g.2.trans h.2,g.3.trans h.3,fun k hk=>g.4 k (h.4 k hk)⟩
theorem nH{β:Type}{s:Se}{c:Bool}{a b:Se×β}(h:Low s a.1)(g:Low s b.1):Low s (bif c then a else b).1:=by
 cases c
 ·exact g
 ·exact h
theorem zLH{s:Se}{c:Bool}{a b:Se}(h:Low s a)(g:Low s b):Low s (bif c then a else b):=by
 cases c
 ·exact g
 ·exact h
theorem Low.fold{α:Type}{f:Se→α→Se}(hf:∀s a,Low s (f s a)):∀(l:List α) (s:Se),Low s (l.foldl f s)
 | [],s=>Low.refl s
 | a::l,s=>(hf s a).trans (Low.fold hf l (f s a))
theorem Low.of{s t:Se}(p:Ct→Bool)(h1:t.conts=s.conts.filter p)(h2:t.epoch=s.epoch)(h3:t.seq=s.seq)(h4:t.apps=s.apps):Low s t :=
 ⟨by rw[h1];exact List.filter_sublist.map _,h2,h3,fun k hk a ha=>hk a (h4▸ha)⟩
theorem Low.same{s t:Se}(h1:t.conts=s.conts)(h2:t.epoch=s.epoch)(h3:t.seq=s.seq)(h4:t.apps=s.apps):Low s t :=
 ⟨by rw[h1];exact pz _,h2,h3,fun k hk a ha=>hk a (h4▸ha)⟩
theorem Low.put{s:Se}{a:Ap}(h:∀k,qTT k s→0≤a.beat∧a.beat≤k):Low s (dW s a) :=
 ⟨pz _,rfl,rfl,fun k hk b hb=>by
  rcases qAa hb with e | e
  ·rw[e];exact h k hk
  ·exact hk b e⟩
theorem oZ(s:Se)(id:Int)(k:Nat)(h:qTT k s):0≤(aB s id).1.beat∧(aB s id).1.beat≤k:=by
 cases hf:(aB s id).2 with
 | true=>exact h _ (qAv (key:=fun x:Ap=>x.id) hf).1
 | false =>
  have e:(aB s id).1=dAp:=by
   unfold aB findD at hf ⊢
   cases hq:s.apps.find? (fun a=>a.id==id) with
   | none=>rfl
   | some a=>rw[hq] at hf;cases hf
  rw[e]
  exact⟨pq _,Int.natCast_nonneg k⟩
theorem qHB{k:Nat}:(0:Int)≤0∧(0:Int)≤k:=⟨pq _,Int.natCast_nonneg k⟩
theorem qTU(s:Se)(id:Int):Low s (dF s id):=by
 unfold dF
 cases (aL s id).2 with
 | false=>exact Low.refl s
 | true =>
  cases (aL s id).1.master with
  | true=>exact(Low.put (s:=s) (a:=qR6 s (aB s (aL s id).1.app).1) fun k _=>qHB).trans (Low.of _ rfl rfl rfl rfl)
  | false =>
   refine(Low.of (t:=pK s (aL s id).1.id) _ rfl rfl rfl rfl).trans (Low.put fun k hk=>?_)
   have e:(qMW (aB s (aL s id).1.app).1 (aL s id).1.id).beat=(aB s (aL s id).1.app).1.beat:=by
    unfold qMW
    cases (fB (aB s (aL s id).1.app).1.grants (aL s id).1.id).2<;>rfl
   rw[e]
   exact oZ s _ k hk
theorem qBp(s:Se)(ids:List Int):Low s (dJ s ids):=Low.fold qTU ids s
theorem qLK(s:Se)(id t:Int):Low s (mU s id t):=by
 have e:(mU s id t).conts.map (·.id)=s.conts.map (·.id):=by
  unfold mU
  simp only[List.map_map]
  refine om fun c _=>?_
  show(nL id t c).id=c.id
  unfold nL
  cases c.id==id<;>rfl
 exact⟨by rw[e];exact pz _,rfl,rfl,fun k hk=>hk⟩
theorem zCB(s:Se)(id b:Int):Low s (jP s id b).1:=by
 unfold jP
 cases (aU s id).2 with
 | false=>exact Low.refl s
 | true =>
 cases (aU s id).1.up with
 | false=>exact Low.refl s
 | true =>
 cases decide (b<0)||decide (b<(aU s id).1.beat) with
 | true=>exact Low.refl s
 | false =>
 cases decide (w64 (b-(aU s id).1.beat)>1) with
 | true=>exact Low.refl s
 | false=>exact Low.same rfl rfl rfl rfl
theorem zCC(s:Se)(id:Int):Low s (zZ s id):=by
 unfold zZ
 cases (aU s id).2 with
 | false=>exact Low.refl s
 | true=>exact Low.same rfl rfl rfl rfl
theorem qMo(s:Se)(n:Nd):Low s (iL s n).1:=by
 unfold iL
 exact nH (Low.refl s) (nH (Low.refl s) (nH (Low.refl s) (Low.same rfl rfl rfl rfl)))
theorem qQd(s:Se):Low s (jN s):=by
 refine⟨pz _,rfl,rfl,fun k hk a ha=>hk a ?_⟩
 have: ∀(l:List Ap) (v:Bool×List Ap),a∈(l.foldl fC v).2→a∈v.2∨a∈l:=by
  intro l
  induction l with
  | nil=>exact fun v h=>.inl h
  | cons b l ih =>
   intro v h
   rcases ih _ h with e | e
   ·have: a∈v.2∨a=b:=by
     unfold fC at e
     cases hq : !v.1&&!live b with
     | true=>rw[hq] at e;exact .inl e
     | false=>rw[hq] at e;simpa using e
    rcases this with e2 | e2
    ·exact .inl e2
    ·exact .inr (by rw[e2];exact j4)
   ·exact .inr (gy _ e)
 rcases this s.apps (false,[]) ha with e | e
 ·cases e
 ·exact e
theorem qQe(s:Se)(a:Ap):Low s (kH s a).1:=by
 unfold kH
 refine nH (Low.refl s) (nH (Low.refl s) (nH (Low.refl s) (nH (Low.refl s) ?_)))
 refine Low.trans (s:=bif decide ((s.apps.length:Int)≥16) then jN s else s) ?_ (Low.put fun k _=>qHB)
 cases decide ((s.apps.length:Int)≥16) with
 | true=>exact qQd s
 | false=>exact Low.refl s
theorem zCD(s:Se)(id state:Int):Low s (qBV s id state).1:=by
 unfold qBV
 cases !(aB s id).2||!live (aB s id).1 with
 | true=>exact Low.refl s
 | false=>exact(Low.put (s:=s) (a:={ (aB s id).1 with state:=state,asks:=[],grants:=[],kills:=[],told:=[],lost:=[] }) fun k hk=>oZ s id k hk).trans (Low.of _ rfl rfl rfl rfl)
theorem qLL(s:Se)(id state:Int):Low s (wT s id state).1:=by
 unfold wT
 exact nH (Low.refl s) (nH (Low.refl s) (zCD s id state))
theorem zCE(label:Int)(s:Se)(c:Ct):Low s (qAu label s c):=by
 unfold qAu
 exact zLH (Low.refl s) (zLH (qBp _ _) (qLK _ _ _))
theorem qTV(s:Se):Low s (sJ s):=by
 refine Low.fold (fun s label=>?_) _ s
 exact(Low.fold (zCE _) _ _).trans (Low.fold (fun s id=>qLK s id _) _ _)
theorem qWV(s:Se)(n:Int):Low s (qEE s n).1:=by
 unfold qEE
 refine nH (Low.refl s) (nH (Low.refl s) ?_)
 refine Low.trans (s:=qOb s n) ?_ (qTV _)
 have h1:Low s (qIl s n):=(Low.same (s:=s) (t:=qAw s n) rfl rfl rfl rfl).trans (Low.fold (f:=qT2) (fun s i=>((zCC s i).trans (Low.same (t:=dP (zZ s i) i) rfl rfl rfl rfl)).trans (qBp _ _)) _ _)
 have h2:Low s (jR s n):=h1.trans (Low.fold (f:=qT3) (fun s i=>qBp s _) _ _)
 exact h2.trans (Low.same rfl rfl rfl rfl)
theorem zCF(s:Se)(p:Pn)(long:Int):Low s (qGh s p long).1:=by
 unfold qGh
 exact nH (Low.refl s) (nH (Low.refl s) (nH (Low.refl s) (nH (Low.refl s) (nH (Low.refl s) (Low.same rfl rfl rfl rfl)))))
theorem qWW(s:Se)(id:Int):Low s (rE s id).1:=by
 unfold rE
 exact nH (Low.refl s) (Low.same rfl rfl rfl rfl)
theorem qQf(s:Se)(text:B):Low s (kJ s text).1:=by
 unfold kJ
 exact nH (Low.refl s) (nH (Low.refl s) (nH (Low.refl s) (nH (Low.refl s) (Low.same rfl rfl rfl rfl))))
structure eQ(k:Nat)(s:Se):Prop where
 asc:(s.conts.map (·.id)).Pairwise (·< ·)
 top:∀i∈s.conts.map (·.id),i≤s.epoch*1048576+s.seq
 seq:0≤s.seq∧s.seq≤k
 ep:0≤s.epoch∧s.epoch≤k
 beat:qTT k s
theorem xH{β:Type}{k:Nat}{c:Bool}{a b:Se×β}(h:eQ k a.1)(g:eQ k b.1):eQ k (bif c then a else b).1:=by
 cases c
 ·exact g
 ·exact h
theorem zIt{k:Nat}{c:Bool}{a b:Se}(h:eQ k a)(g:eQ k b):eQ k (bif c then a else b):=by
 cases c
 ·exact g
 ·exact h
theorem eQ.le{k m:Nat}{s:Se}(h:eQ k s)(hm:k≤m):eQ m s :=
 ⟨h.asc,h.top,⟨h.seq.1,by have:= h.seq.2;omega⟩,⟨h.ep.1,by have:= h.ep.2;omega⟩,fun a ha=>⟨(h.beat a ha).1,by have:= (h.beat a ha).2;omega⟩⟩
theorem eQ.low{k:Nat}{s t:Se}(h:eQ k s)(g:Low s t):eQ k t :=
 ⟨h.asc.sublist g.ids,fun i hi=>by rw[g.ep,g.seq];exact h.top i (g.ids.subset hi),by rw[g.seq];exact h.seq,by rw[g.ep];exact h.ep,g.beat k h.beat⟩
theorem zCG{α:Type}{key:α→Int}{x:α}{l:List α}(h:∀a∈l,key a<key x):qHg key x l=l++[x]:=by
 have e:l.takeWhile (fun a=>decide (key a<key x))=l:=by
  induction l with
  | nil=>rfl
  | cons a l ih=>rw[sw];simp[h a j4,ih fun b hb=>h b (gy _ hb)]
 simp[qHg,e]
theorem qGB{k:Nat}{s:Se}{n:Nd}{a:Ap}{x:Ak}(h:eQ k s)(hk:k≤1000000)(ha:0≤a.beat∧a.beat≤k):eQ (k+1) (mD s n a x).1:=by
 have h1:=h.seq
 have h2:=h.ep
 have e1:w64 (s.seq+1)=s.seq+1:=dI (by omega) (by omega)
 have e2:w64 (s.epoch*2 ^ 20)=s.epoch*1048576:=by rw[show(2:Int) ^ 20=1048576 by decide];exact dI (by omega) (by omega)
 have e3:kP s=s.epoch*1048576+(s.seq+1):=by
  unfold kP
  rw[e1,e2]
  exact dI (by omega) (by omega)
 have hc:qHg (·.id) (oD s n a x) s.conts=s.conts++[oD s n a x]:=zCG fun c hc=>by
  have:= h.top c.id (tu hc)
  show c.id<kP s
  rw[e3];omega
 have hT:eQ (k+1) { s with conts:=qHg (·.id) (oD s n a x) s.conts,seq:=w64 (s.seq+1) }:=by
  rw[hc,e1]
  refine⟨?_,fun i hi=>?_,⟨by show 0≤s.seq+1;omega,by show s.seq+1≤((k+1:Nat):Int);omega⟩,⟨h2.1,by show s.epoch≤((k+1:Nat):Int);omega⟩,(h.le (jv k)).beat⟩
  ·show((s.conts++[oD s n a x]).map (·.id)).Pairwise (·< ·)
   rw[l8]
   refine ma.2 ⟨h.asc,List.pairwise_singleton _ _,fun i hi j hj=>?_⟩
   have hj:j=kP s:=ib.1 hj
   have:= h.top i hi
   rw[hj,e3];omega
  ·show i≤s.epoch*1048576+(s.seq+1)
   have hi:i∈(s.conts++[oD s n a x]).map (·.id):=hi
   rw[l8,dz] at hi
   rcases hi with hi | hi
   ·have:= h.top i hi;omega
   ·have hj:i=kP s:=ib.1 hi
    rw[hj,e3];omega
 refine⟨hT.asc,hT.top,hT.seq,hT.ep,fun b hb=>?_⟩
 rcases qAa hb with e | e
 ·rw[e]
  unfold qHx
  cases a.state==1 with
  | true=>exact qHB
  | false=>exact⟨ha.1,by have:= ha.2;show a.beat≤((k+1:Nat):Int);omega⟩
 ·exact hT.beat b e
theorem qWX{k:Nat}{s:Se}{n:Nd}{id:Int}{x:Ak}(first:Bool)(h:eQ k s)(hk:k≤1000000) :
  eQ (k+1) (tQ s n (aB s id).1 x first).1∧(((tQ s n (aB s id).1 x first).2.1 != 0)=false→eQ k (tQ s n (aB s id).1 x first).1):=by
 have hs:eQ (k+1) s∧(((0:Int) != 0)=false→eQ k s):=⟨h.le (jv k),fun _=>h⟩
 have hb:=oZ s id k h.beat
 unfold tQ
 simp only[]
 cases xR x n==4||!oC x.size n.cap||first&&!qCw s (aB s id).1.queue x with
 | true=>exact hs
 | false =>
  cases !zY x n with
  | true =>
   cases first==qCw s (aB s id).1.queue x with
   | true =>
    have:= h.low (Low.put (s:=s) (a:={ (aB s id).1 with asks:=qNP (aB s id).1.asks x.prio }) fun k hk=>oZ s id k hk)
    exact⟨this.le (jv k),fun _=>this⟩
   | false=>exact hs
  | false =>
   cases !qBg s (aB s id).1.queue n.label x.size with
   | true=>exact hs
   | false =>
    cases oC x.size (wL s n.id) with
    | true=>exact⟨qGB h hk hb,fun e=>absurd e (by show ¬((1:Int) != 0)=false;decide)⟩
    | false =>
     cases first&&!qAO s (aB s id).1.id x.prio with
     | true=>exact⟨(h.low (Low.same (t:=qE0 s ⟨n.id,(aB s id).1.id,x.prio⟩) rfl rfl rfl rfl)).le (jv k),fun e=>absurd e (by show ¬((2:Int) != 0)=false;decide)⟩
     | false=>exact hs
theorem qQg{k:Nat}{s:Se}{n:Nd}{id:Int}(first:Bool)(x:Ak)(h:eQ k s)(hk:k≤1000000):Sum.elim (eQ k) (fun r=>eQ (k+1) r.1) (pY n id first s x):=by
 have h1:=qWX (n:=n) (id:=id) (x:=x) first h hk
 unfold pY
 cases he:(tQ s n (aB s id).1 x first).2.1 != 0 with
 | true=>exact h1.1
 | false=>exact h1.2 he
theorem qQh{k:Nat}{s:Se}{n:Nd}{leaf:B}(first:Bool)(id:Int)(h:eQ k s)(hk:k≤1000000):Sum.elim (eQ k) (fun r=>eQ (k+1) r.1) (sK n leaf first s id):=by
 unfold sK
 cases !qBf s leaf n.label (aB s id).1.user with
 | true=>exact h
 | false=>exact pX (f:=pY n id first) (eQ k) (fun r=>eQ (k+1) r.1) _ (fun t x _ ht=>qQg first x ht hk) h
theorem qLM{k:Nat}{s:Se}{n:Nd}(first:Bool)(leaf:B)(h:eQ k s)(hk:k≤1000000):Sum.elim (eQ k) (fun r=>eQ (k+1) r.1) (mF n first s leaf) :=
 pX (f:=sK n leaf first) (eQ k) (fun r=>eQ (k+1) r.1) _ (fun _ id _ ht=>qQh first id ht hk) h
theorem qGC{k:Nat}{s:Se}{n:Nd}(first:Bool)(h:eQ k s)(hk:k≤1000000):eQ (k+1) (mG s n first).1:=by
 unfold mG
 have:= pX (f:=mF n first) (eQ k) (fun r=>eQ (k+1) r.1) (gH s n.label 6 dZ) (fun _ leaf _ ht=>qLM first leaf ht hk) h
 revert this
 cases goE (mF n first) (gH s n.label 6 dZ) s with
 | inl t=>exact fun e=>e.le (jv k)
 | inr r=>exact fun e=>e
theorem qLN{k:Nat}{s:Se}{n:Nd}(h:eQ k s)(hk:k≤999999):eQ (k+2) (qEa s n).1:=by
 have h1:=qGC (n:=n) true h (by omega)
 unfold qEa
 cases (mG s n true).2.1 != 0 with
 | true=>exact h1.le (jv _)
 | false=>exact qGC false h1 (by omega)
theorem qTW{k:Nat}{s:Se}{n:Nd}{x:Sl}(h:eQ k s)(hk:k≤1000000):eQ (k+1) (kQ s n x).1:=by
 have hn:eQ k (dP s n.id):=h.low (Low.same rfl rfl rfl rfl)
 unfold kQ
 exact xH (hn.le (jv k)) (xH (h.le (jv k)) (qGB hn hk (oZ s x.app k h.beat)))
theorem qWY{k:Nat}{s:Se}{node:Int}(h:eQ k s)(hk:k≤999998):eQ (k+3) (qG s node).1:=by
 have h1:=qTW (n:=(aU s node).1) (x:=(gD s node).1) h (by omega)
 unfold qG
 exact xH (h.le (by omega)) (xH (xH (h1.le (by omega)) (qLN h1 (by omega))) ((qLN h (by omega)).le (by omega)))
theorem qLO{node:Int}:∀{m k:Nat} {s:Se},eQ k s→k+3*m≤999998→eQ (k+3*m) (qGp node m s)
 | 0,k,s,h,_=>h
 | m+1,k,s,h,hk=>by
  have h1:=qWY (node:=node) h (by omega)
  unfold qGp
  exact zIt (h1.le (by omega)) ((qLO (m:=m) h1 (by omega)).le (by omega))
theorem qTX{k:Nat}{s:Se}(x:Ip)(h:eQ k s)(hk:k≤900000):eQ (k+9) (qED s x).1:=by
 unfold qED
 exact xH (h.le (by omega)) <| xH (h.le (by omega)) <| qLO (m:=3) ((h.low (zCB s x.id x.beat)).low (qBp _ _)) (by omega)
theorem qMp{k:Nat}{s:Se}(x:Ip)(h:eQ k s)(hk:k≤900000)(hx:In64 x.beat):eQ (k+9) (wV s x).1:=by
 have hb:=oZ s x.id k h.beat
 unfold In64 at hx
 unfold wV
 refine xH (h.le (by omega)) (xH (h.le (by omega)) ?_)
 cases h1:decide (x.beat<(aB s x.id).1.beat) with
 | true=>exact h.le (by omega)
 | false =>
 have h1:(aB s x.id).1.beat≤x.beat:=by simp at h1;omega
 simp only[cond_false]
 refine xH (h.le (by omega)) ?_
 cases h2:decide (w64 (x.beat-1)>(aB s x.id).1.beat) with
 | true=>exact h.le (by omega)
 | false =>
 have h2:x.beat-1≤(aB s x.id).1.beat:=by
  simp at h2
  rw[dI (by omega) (by omega)] at h2
  omega
 simp only[cond_false]
 refine xH (h.le (by omega)) ?_
 have hG:=yU s x
 obtain⟨p,hp⟩:=hG.conts
 have hL:eQ k (fU s x).1:=h.low (by rw[hp];exact Low.of p rfl rfl rfl rfl)
 refine⟨hL.asc,hL.top,(hL.le (show k≤k+9 by omega)).seq,(hL.le (show k≤k+9 by omega)).ep,fun b hb2=>?_⟩
 rcases qAa hb2 with e | e
 ·rw[e]
  exact⟨by show 0≤x.beat;omega,by show x.beat≤((k+9:Nat):Int);omega⟩
 ·exact(hL.le (show k≤k+9 by omega)).beat b e
theorem qIs{k:Nat}{s:Se}(x:Ip)(h:eQ k s)(hk:k≤900000)(hx:In64 x.beat):eQ (k+9) (kC s x).1:=by
 have l:∀{t:Se},Low s t→eQ (k+9) t:=fun g=>(h.low g).le (by omega)
 unfold kC
 cases x.kind==1 with
 | true=>exact l (qQf s x.text)
 | false =>
 cases x.kind==2 with
 | true=>exact l (qMo s x.node)
 | false =>
 cases x.kind==3 with
 | true=>exact qTX x h hk
 | false =>
 cases x.kind==4 with
 | true=>exact l (qQe s x.app)
 | false =>
 cases x.kind==5 with
 | true=>exact qMp x h hk hx
 | false =>
 cases x.kind==6 with
 | true=>exact l (qLL s x.id 3)
 | false =>
 cases x.kind==7 with
 | true=>exact l (qLL s x.id 4)
 | false =>
 cases x.kind==8 with
 | true=>exact l (qWV s x.n)
 | false =>
 cases x.kind==9 with
 | true=>exact l (zCF s x.plan x.n)
 | false =>
 cases x.kind==10 with
 | true=>exact l (qWW s x.id)
 | false =>
 cases x.kind==11 with
 | false=>exact l (Low.refl s)
 | true =>
  cases decide (s.epoch≥1048576) with
  | true=>exact l (Low.refl s)
  | false =>
   have h1:=h.seq
   have h2:=h.ep
   have e:w64 (s.epoch+1)=s.epoch+1:=dI (by omega) (by omega)
   refine⟨h.asc,fun i hi=>?_,⟨pq _,Int.natCast_nonneg _⟩,?_,(h.le (show k≤k+9 by omega)).beat⟩
   ·have:= h.top i hi
    show i≤w64 (s.epoch+1)*1048576+0
    rw[e];omega
   ·show 0≤w64 (s.epoch+1)∧w64 (s.epoch+1)≤((k+9:Nat):Int)
    rw[e];omega
theorem zIu(a:Act)(s:Se):In64 (qZh a s):=by
 have: ∀(l:List Nd) (v:Int),In64 v→In64 (l.foldl (qPS a) v):=by
  intro l
  induction l with
  | nil=>exact fun v h=>h
  | cons n l ih=>exact fun v h=>ih _ (zQq (zIs _) h)
 exact this s.nodes 0 (by unfold In64;decide)
theorem qTY(a:Act)(s:Se):In64 (qBj a s).beat:=by
 have z:In64 0:=by unfold In64;decide
 unfold qBj
 exact qQc z (qQc (zIu a s) (qQc z (qQc (qQc z (zIs _)) (qQc z (qQc z (qQc z (qQc z z)))))))
theorem zCH{k:Nat}{s:Se}(a:Act)(h:eQ k s)(hk:k≤900000):eQ (k+9) (qW5 s a):=qIs _ h hk (qTY a s)
theorem qLP:eQ 0 iX:=⟨List.Pairwise.nil,fun i hi=>(by cases hi),by decide,by decide,fun a ha=>(by cases ha)⟩
theorem qTZ(x:Scr):eQ 9 (qCF x):=by
 unfold qCF
 exact zIt (qIs _ qLP (by decide) (by show In64 0;unfold In64;decide)) (qLP.le (by decide))
theorem qWZ(l:List Act):∀{k:Nat} {s:Se},eQ k s→k+9*l.length≤900000→eQ (k+9*l.length) (l.foldl qW5 s):=by
 induction l with
 | nil=>exact fun h _=>h
 | cons a l ih =>
  intro k s h hk
  rw[dw] at hk ⊢
  exact(ih (zCH a h (by omega)) (by omega)).le (by omega)
theorem qUa{x:Scr}(hx:x.acts.length≤80):eQ 1000 (qH5 x):=(qWZ x.acts (qTZ x) (by omega)).le (by omega)
abbrev Up(l:List Ct):Prop:=(l.map (·.id)).Pairwise (·< ·)
theorem Up.filter{l:List Ct}(h:Up l)(p:Ct→Bool):Up (l.filter p):=h.sublist (List.filter_sublist.map _)
theorem Up.inj{a b:Ct}:∀{l:List Ct},Up l→a∈l→b∈l→a.id=b.id→a=b
 | [],_,h,_,_=>(by cases h)
 | c::l,hl,ha,hb,e=>by
  have h1:=ja.1 (show((c.id)::l.map (·.id)).Pairwise (·< ·) from hl)
  rcases fo.1 ha with e1 | e1<;>rcases fo.1 hb with e2 | e2
  ·rw[e1,e2]
  ·have:= h1.1 b.id (tu e2);rw[e1] at e;omega
  ·have:= h1.1 a.id (tu e1);rw[e2] at e;omega
  ·exact Up.inj (l:=l) h1.2 e1 e2 e
theorem erase_filter{p:Ct→Bool}{n:Int}(hp:∀c,p c=true→c.id=n):∀{l:List Ct} {i:Nat},Up l→l.findIdx? p=some i→l.eraseIdx i=l.filter fun c=>!p c
 | [],i,_,h=>(by cases h)
 | a::l,i,ha,h=>by
  have h1:=ja.1 (show((a.id)::l.map (·.id)).Pairwise (·< ·) from ha)
  rw[List.findIdx?_cons] at h
  rw[jq]
  cases hq:p a with
  | true =>
   rw[hq] at h
   have h:some 0=some i:=h
   cases h
   show l=l.filter fun c=>!p c
   refine(mr.2 fun c hc=>?_).symm
   cases hc2:p c with
   | false=>rfl
   | true =>
    have e1:=hp a hq
    have e2:=hp c hc2
    have:= h1.1 c.id (tu hc)
    omega
  | false =>
   rw[hq] at h
   have h:(l.findIdx? p).map (·+ 1)=some i:=h
   cases hj:l.findIdx? p with
   | none=>rw[hj] at h;cases h
   | some j =>
    rw[hj] at h
    cases h
    show a::l.eraseIdx j=a::l.filter fun c=>!p c
    rw[erase_filter hp (show Up l from h1.2) hj]
theorem qUb{app id:Int}{v:List Ct×List Int}(h:Up v.1):(oW app v id).1=v.1.filter fun c=>!(c.id==id&&c.app==app&&!c.master):=by
 unfold oW
 cases hf:v.1.findIdx? (fun c=>c.id==id&&c.app==app&&!c.master) with
 | none =>
  rw[su] at hf
  exact(mr.2 fun c hc=>by rw[hf c hc];rfl).symm
 | some i=>exact erase_filter (n:=id) (fun c hc=>by simp at hc;exact hc.1.1) h hf
theorem qEQ{app:Int}:∀(ids:List Int) (v:List Ct×List Int),Up v.1→(ids.foldl (oW app) v).1=v.1.filter fun c=>!(c.app==app&&!c.master&&ids.any fun i=>i==c.id)
 | [],v,_=>(mr.2 fun c _=>by simp).symm
 | i::ids,v,h=>by
  have h1:=qUb (app:=app) (id:=i) h
  rw[lu,qEQ ids _ (h1▸h.filter _),h1,List.filter_filter]
  refine List.filter_congr fun c _=>?_
  rw[List.any_cons,show(i==c.id)=(c.id==i) by rw[je];simp;exact⟨Eq.symm,Eq.symm⟩]
  cases c.app==app<;>cases c.master<;>cases c.id==i<;>cases ids.any fun i=>i==c.id<;>rfl
theorem qXa(s:Se)(i:Int):(aL s i).2=s.conts.any fun c=>c.id==i:=by
 unfold aL findD
 cases hf:s.conts.find? (fun c=>c.id==i) with
 | none =>
  symm
  have h:=List.find?_eq_none.1 hf
  exact List.any_eq_false.2 fun c hc=>h c hc
 | some a=>exact(qh.2 ⟨a,ky hf,uf hf⟩).symm
theorem any_filter{l:List Ct}{q:Ct→Bool}{c:Ct}(h:Up l)(hc:c∈l):((l.filter q).any fun d=>d.id==c.id)=q c:=by
 rw[je,qh]
 constructor
 ·rintro⟨d,hd,e⟩
  rw[l7] at hd
  have: d=c:=h.inj hd.1 hc (by simpa using e)
  rw[←this];exact hd.2
 ·exact fun hq=>⟨c,l7.2 ⟨hc,hq⟩,by simp⟩
theorem qO2{cs:List Ct}{d:Ct}:∀(ids:List Int) (out:List Ct),d∈ids.foldl (sH cs) out→d∈out∨d∈cs
 | [],_,h=>.inl h
 | i::ids,out,h=>by
  rcases qO2 ids _ h with e | e
  ·rcases dz.1 e with e | e
   ·exact .inl e
   ·exact .inr (l7.1 e).1
  ·exact .inr e
def qQi(app:Int)(ids:List Int)(c:Ct):Bool:=c.app==app&&!c.master&&ids.any fun i=>i==c.id
theorem zIv{s:Se}{x:Ip}{a:Ap}{i:Nat}{c:Ct}(h:Up s.conts)(hc:c∈s.conts):(aL (qEP s x a i) c.id).2 = !qQi a.id x.ids c:=by
 rw[qXa]
 show((x.ids.foldl (oW a.id) (s.conts,a.grants)).1.any fun d=>d.id==c.id)=_
 rw[qEQ _ _ h]
 exact any_filter h hc
theorem zCI{s:Se}{x:Ip}{a:Ap}{c d:Ct}(h:Up s.conts)(hc:c∈s.conts)(hg:qQi a.id x.ids c=true)(hd:d∈(qCM s x a).conts):(d.id==c.id)=false:=by
 rcases qO2 _ _ hd with e | e
 ·cases e
 have e:d∈(x.ids.foldl (oW a.id) (s.conts,a.grants)).1:=e
 rw[qEQ _ _ h,l7] at e
 cases hq:d.id==c.id with
 | false=>rfl
 | true =>
  have: d=c:=h.inj e.1 hc (by simpa using hq)
  have e2:(!qQi a.id x.ids d)=true:=e.2
  rw[this,hg] at e2
  cases e2
theorem zNT{s:Se}(h:Tidy s){i:Nat}(hi:i<s.apps.length):s.apps.findIdx? (fun b=>b.id==(s.apps.getD i dAp).id)=some i:=by
 rw[oz]
 have e:s.apps.getD i dAp=s.apps[i]:=by simp[List.getD,hi]
 rw[e]
 refine⟨hi,by simp,fun j hj=>?_⟩
 have h2:s.apps[j].id<s.apps[i].id:=List.pairwise_iff_getElem.1 h.apps j i (by omega) hi hj
 simp;omega
end Go.Proofs.YtlmkakccmpncjaaGreatDoor
