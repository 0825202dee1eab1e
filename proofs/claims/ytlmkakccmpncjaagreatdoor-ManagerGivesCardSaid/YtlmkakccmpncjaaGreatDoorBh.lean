/- Part of the proof: texts Bo Bp. No conditions. -/
import Derived.Test.YtlmkakccmpncjaaGreatDoorBg
set_option linter.all false
namespace Go.Proofs.YtlmkakccmpncjaaGreatDoor
open Go Go.W Go.Proofs
open Go.W.DT (ret need br bad loop join)
set_option maxRecDepth 100000
def goE{α β γ:Type}(f:β→α→β ⊕ γ):List α→β→β ⊕ γ
 | [],b=>.inl b
 | a::l,b=>match f b a with | .inl b'=>goE f l b' | .inr r=>.inr r
theorem pX{α β γ:Type}{f:β→α→β ⊕ γ}(I:β→Prop)(J:γ→Prop):∀(l:List α),(∀b a,a∈l→I b→Sum.elim I J (f b a))→∀{b:β},I b→Sum.elim I J (goE f l b)
 | [],_,b,h=>h
 | a::l,hs,b,h=>by
  have h1:=hs b a j4 h
  unfold goE
  cases hf:f b a with
  | inl b'=>rw[hf] at h1;exact pX I J l (fun b a ha=>hs b a (gy _ ha)) h1
  | inr r=>rw[hf] at h1;exact h1
theorem qLi{α β γ ρ:Type}(f:β→α→β ⊕ γ)(fin:β→ρ)(out:γ→ρ):∀(l:List α) (b:β),scan (fun b a=>match f b a with | .inl b'=>.inl b' | .inr r=>.inr (out r)) fin l b=Sum.elim fin out (goE f l b)
 | [],b=>rfl
 | a::l,b=>by
  unfold scan goE
  cases f b a with
  | inl b'=>exact qLi f fin out l b'
  | inr r=>rfl
theorem qT0{α β γ σ ρ:Type}(l:List α)(d:α)(enc:Int→β→σ){body:σ→DT (σ ⊕ ρ)}(f:β→α→β ⊕ γ)(fin:β→ρ)(out:γ→ρ)(I:β→Prop)
  (hstep:∀(i:Nat) (b:β),i<l.length→I b→Sum.elim (fun b'=>I b'∧(body (enc (i:Int) b)).G (.inl (enc ((i+1:Nat):Int) b'))) (fun r=>(body (enc (i:Int) b)).G (.inr (out r))) (f b (l.getD i d)))
  (hend:∀b,I b→(body (enc (l.length:Int) b)).G (.inr (fin b))) {b0:β} (h0:I b0):(loop (enc 0 b0) body).G (Sum.elim fin out (goE f l b0)):=by
 refine iU l d enc (fun b a=>match f b a with | .inl b'=>.inl b' | .inr r=>.inr (out r)) fin (fun _ b=>I b) (fun i b hi hI=>?_) (fun b hb=>hend b hb) h0 (qLi f fin out l b0)
 have h1:=hstep i b hi hI
 cases hf:f b (l.getD i d) with
 | inl b'=>rw[hf] at h1;exact h1
 | inr r=>rw[hf] at h1;exact h1
theorem jQ{α:Type}{t u:DT α}{x:α}:(br true t u).G x↔t.G x:=by simp
theorem eY{α:Type}{t u:DT α}{x:α}:(br false t u).G x↔u.G x:=by simp
theorem aW{α:Type}{t:DT α}{x:α}:(need true t).G x↔t.G x:=by simp
theorem mE{σ α:Type}{t:DT (σ ⊕ α)}{k:σ→DT α}{x:α}:(join (need true t) k).G x↔(join t k).G x:=by simp
theorem tT{σ α:Type}{t u:DT (σ ⊕ α)}{k:σ→DT α}{x:α}:(join (br true t u) k).G x↔(join t k).G x:=by simp
theorem tV{σ α:Type}{t u:DT (σ ⊕ α)}{k:σ→DT α}{x:α}:(join (br false t u) k).G x↔(join u k).G x:=by simp
theorem qNX{β γ τ ζ:Type}{T:DT (ζ ⊕ τ)}{K:ζ→DT τ}{g:β ⊕ γ}{e:β→ζ}{f:γ→τ}(H:T.G (Sum.elim (fun w=>.inl (e w)) (fun r=>.inr (f r)) g)){P:β→Prop}{Q:γ→Prop}{A:β→τ}(hK:∀w,P w→(K (e w)).G (A w))(hP:Sum.elim P Q g) :
  Sum.elim (fun b=>P b∧(join T K).G (A b)) (fun r=>(join T K).G (f r)) g:=by
 revert H hP
 cases g with
 | inl w=>exact fun H hP=>⟨hP,aN _ H (hK w hP)⟩
 | inr r=>exact fun H hP=>uT H
theorem qGm{s:Se}{label:Int}:∀(n:Nat) (p x:B),x∈gH s label n p→x=p∨∃q∈s.conf.queues,q.path=x
 | 0,p,x,h=>by cases h
 | n+1,p,x,h=>by
  unfold gH at h
  cases hz:((mV s p label).length:Int)==0 with
  | true=>rw[hz] at h;simp at h;exact .inl h
  | false =>
   rw[hz] at h
   simp only[cond_false] at h
   rcases qC1 _ _ _ h with e | ⟨k,hk,e⟩
   ·cases e
   ·rcases qGm n _ x e with e2 | e2
    ·obtain⟨_,_,q,hq,e3⟩:=rU (qLb hk)
     exact .inr ⟨q,hq,by rw[e2,e3]⟩
    ·exact .inr e2
def pY(n:Nd)(id:Int)(first:Bool)(s:Se)(x:Ak):Se ⊕ (Se×Int×Ct×Unit) :=
 bif (tQ s n (aB s id).1 x first).2.1 != 0 then .inr (tQ s n (aB s id).1 x first) else .inl (tQ s n (aB s id).1 x first).1
def sK(n:Nd)(leaf:B)(first:Bool)(s:Se)(id:Int):Se ⊕ (Se×Int×Ct×Unit) :=
 bif !qBf s leaf n.label (aB s id).1.user then .inl s else goE (pY n id first) (aB s id).1.asks s
def mF(n:Nd)(first:Bool)(s:Se)(leaf:B):Se ⊕ (Se×Int×Ct×Unit):=goE (sK n leaf first) (qE9 s leaf) s
def mG(s:Se)(n:Nd)(first:Bool):Se×Int×Ct×Unit:=Sum.elim (fun s=>(s,0,dCt,())) id (goE (mF n first) (gH s n.label 6 dZ) s)
theorem qGn{b:Nat}{c:CfE}{s:Se}{n:Nd}{id:Int}(first:Bool)(x:Ak)(h:bJ b c s∧(aB s id).2=true):Sum.elim (fun t=>bJ b c t∧(aB t id).2=true) (fun r=>bJ (b+3) c r.1) (pY n id first s x):=by
 have h1:=qWn (n:=n) (x:=x) first h.1 h.2
 unfold pY
 cases hk:(tQ s n (aB s id).1 x first).2.1 != 0 with
 | true=>exact h1.1
 | false=>exact h1.2 hk
theorem qIj{s:Se}{id:Int}(h:(aB s id).2=false):(aB s id).1.asks=[]:=by
 unfold aB findD at h ⊢
 cases hf:s.apps.find? (fun a=>a.id==id) with
 | none=>rfl
 | some a=>rw[hf] at h;cases h
theorem qGo{b:Nat}{c:CfE}{s:Se}{n:Nd}{leaf:B}(first:Bool)(id:Int)(h:bJ b c s):Sum.elim (bJ b c) (fun r=>bJ (b+3) c r.1) (sK n leaf first s id):=by
 unfold sK
 cases !qBf s leaf n.label (aB s id).1.user with
 | true=>exact h
 | false =>
  simp only[cond_false]
  cases hf:(aB s id).2 with
  | false=>rw[qIj hf];exact h
  | true =>
   have:= pX (f:=pY n id first) (fun t=>bJ b c t∧(aB t id).2=true) (fun r=>bJ (b+3) c r.1) (aB s id).1.asks (fun t x _ ht=>qGn first x ht) (b:=s) ⟨h,hf⟩
   revert this
   cases goE (pY n id first) (aB s id).1.asks s with
   | inl t=>exact fun e=>e.1
   | inr r=>exact fun e=>e
theorem qC3{b:Nat}{c:CfE}{s:Se}{n:Nd}(first:Bool)(leaf:B)(h:bJ b c s):Sum.elim (bJ b c) (fun r=>bJ (b+3) c r.1) (mF n first s leaf) :=
 pX (f:=sK n leaf first) (bJ b c) (fun r=>bJ (b+3) c r.1) _ (fun _ id _ ht=>qGo first id ht) h
theorem vC{b:Nat}{c:CfE}{s:Se}{n:Nd}(first:Bool)(h:bJ b c s):bJ (b+3) c (mG s n first).1:=by
 unfold mG
 have:= pX (f:=mF n first) (bJ b c) (fun r=>bJ (b+3) c r.1) (gH s n.label 6 dZ) (fun _ leaf _ ht=>qC3 first leaf ht) h
 revert this
 cases goE (mF n first) (gH s n.label 6 dZ) s with
 | inl t=>exact fun e=>e.le (by omega)
 | inr r=>exact fun e=>e
theorem qWo(s:Se)(queue:B):(qE9 s queue).length≤s.apps.length:=by
 unfold qE9
 rw[jc]
 have: ∀(l:List Ap) (v:List Ap),(l.foldl (pU queue) v).length≤v.length+l.length:=by
  intro l
  induction l with
  | nil=>exact fun v=>df _
  | cons a l ih=>intro v;have h1:=ih (pU queue v a);have h2:=yC queue v a;rw[List.foldl,dw];omega
 have h:=this s.apps []
 simpa using h
theorem bJ.sn{b:Nat}{c:CfE}{s:Se}(h:bJ b c s):SeN b s:=h.pot.sz
theorem qNY{s:Se}{n:Nd}(first:Bool){b:Nat}{c:CfE}(h:bJ b c s)(hb:b≤100000000):nY s n first=true∧fE s n first=mG s n first:=zBE (by
 unfold qN9 mG
 have hO:=h.pot.ok (show b≤1000000000 by omega)
 have hg:=h.gd
 obtain⟨hl,hll⟩:=qTu n.label hO hg.up hg.few 6 dZ (by decide) hg.deep 9 (by decide)
 have e1:qCj s dZ n.label=true:=hl.1
 have e2:qE5 s dZ n.label=(gH s n.label 6 dZ,()):=hl.2
 have hlp:∀x∈gH s n.label 6 dZ,x.length≤1000000000:=fun x hx=>by
  rcases qGm 6 _ _ hx with e | ⟨q,hq,e⟩
  ·rw[e];decide
  ·rw[←e];exact(hO.qu q hq).2
 simp only[qCx]
 refine aH e1 ?_
 simp only[e2]
 generalize gH s n.label 6 dZ=L at hll hlp ⊢
 have hL:L.length≤1000000000:=bq hll (by decide)
 refine qT0 L [] (fun i (v:Se)=>(i,(v,()),())) (mF n first) (fun v=>(v,0,dCt,())) id (bJ b c) (fun i v hi hv=>?_) (fun v hv=>aF (by simp only[sS,bE])) h
 have hv:bJ b c v:=hv
 have hO:=hv.pot.ok (show b≤1000000000 by omega)
 have hleaf:(L.getD i []).length≤1000000000:=hlp _ (bL hi)
 have hkeep:=qC3 (n:=n) first (L.getD i []) hv
 have ha:=zGQ (L.getD i []) hO (bq hv.sn.apps hb)
 have hal:=bq (qWo v (L.getD i [])) hO.apps
 have hi1:=aY hi
 have hi2:=bB hi
 simp only[di,ha.2,ha.1,hi1,hi2,jQ,mE]
 have hun:mF n first v (L.getD i [])=goE (sK n (L.getD i []) first) (qE9 v (L.getD i [])) v:=rfl
 rw[hun] at hkeep ⊢
 generalize qE9 v (L.getD i [])=ids at hal hkeep ⊢
 refine qNX (e:=fun w=>((w,()),())) (f:=Sum.inr) ?_ (fun w _=>aF (by simp only[sS,aD hi hL])) hkeep
 refine qT0 ids 0 (fun j (w:Se)=>(j,(w,()),())) (sK n (L.getD i []) first) _ _ (bJ b c) (fun j w hj hw=>?_) (fun w hw=>aF (by simp only[sS,bE])) hv
 have hw:bJ b c w:=hw
 have hOw:=hw.pot.ok (show b≤1000000000 by omega)
 have hj1:=aY hj
 have hj2:=bB hj
 have hm:=qTq n.label (aB w (ids.getD j 0)).1.user hOw hw.gd.up hleaf
 have hk2:=qGo (n:=n) (leaf:=L.getD i []) first (ids.getD j 0) hw
 simp only[di,hj1,hj2,jQ,mE,aM.2 hOw,aK,hm.1,hm.2]
 unfold sK at hk2 ⊢
 cases hmo:qBf w (L.getD i []) n.label (aB w (ids.getD j 0)).1.user with
 | false =>
  simp only[o7,cond_true,tT]
  exact⟨hw,aF (by simp only[sS,aD hj hal])⟩
 | true =>
  rw[hmo] at hk2
  simp only[j6,cond_false,tV] at hk2 ⊢
  refine qNX (e:=fun w=>((w,()),())) (f:=fun r=>Sum.inr (Sum.inr (Sum.inr r))) ?_ (fun w _=>aF (by simp only[sS,aD hj hal])) hk2
  cases hf:(aB w (ids.getD j 0)).2 with
  | false =>
   have ha0:=qIj hf
   rw[ha0]
   refine qT0 [] dAk (fun k (u:Se)=>(k,(u,()),())) (pY n (ids.getD j 0) first) _ _ (fun _=>True) (fun k u hk _=>?_) (fun u _=>aF (by simp only[sS,bE])) trivial
   cases hk
  | true =>
   have hal2:(aB w (ids.getD j 0)).1.asks.length≤1000000000:=bq (hw.sn.aB _).asks (by omega)
   refine qT0 (aB w (ids.getD j 0)).1.asks dAk (fun k (u:Se)=>(k,(u,()),())) (pY n (ids.getD j 0) first) _ _ (fun u=>bJ b c u∧(aB u (ids.getD j 0)).2=true) (fun k u hk hu=>?_) (fun u _=>aF (by simp only[sS,bE])) ⟨hw,hf⟩
   have hu:bJ b c u∧(aB u (ids.getD j 0)).2=true:=hu
   have hOu:=hu.1.pot.ok (show b≤1000000000 by omega)
   have hq:=zKh (n:=n) (x:=(aB w (ids.getD j 0)).1.asks.getD k dAk) first hu.1.sn (hu.1.sn.aB (ids.getD j 0)) hu.1.gd.up (show b+2≤1000000000 by omega)
   have hk3:=qGn (n:=n) first ((aB w (ids.getD j 0)).1.asks.getD k dAk) hu
   have hk1:=aY hk
   have hk4:=bB hk
   simp only[di,hk1,hk4,jQ,mE,aM.2 hOu,aK,hq.1,hq.2]
   unfold pY at hk3 ⊢
   cases hkd:(tQ u n (aB u (ids.getD j 0)).1 ((aB w (ids.getD j 0)).1.asks.getD k dAk) first).2.1 != 0 with
   | true =>
    rw[hkd] at hk3
    simp only[cond_true,tT]
    exact aF (by simp only[sS])
   | false =>
    rw[hkd] at hk3
    simp only[cond_false,tV]
    exact⟨hk3,aF (by simp only[sS,aD hk hal2])⟩)
theorem bJ.dP{b:Nat}{c:CfE}{s:Se}(h:bJ b c s)(id:Int):bJ b c (dP s id):=by
 obtain⟨k,h1,h2⟩:=h.pot
 exact⟨⟨k,h1.dP id,h2⟩,h.conf,h.ep,h.good,h.tidy.of rfl rfl⟩
theorem qIk{b:Nat}{c:CfE}{s:Se}{n:Nd}{x:Sl}(h:bJ b c s):bJ (b+3) c (kQ s n x).1:=by
 unfold kQ
 simp only[]
 cases !(aB s x.app).2||!live (aB s x.app).1||!(uU (aB s x.app).1.asks x.prio).2||!zY (uU (aB s x.app).1.asks x.prio).1 n||!oC (uU (aB s x.app).1.asks x.prio).1.size n.cap||!qCw s (aB s x.app).1.queue (uU (aB s x.app).1.asks x.prio).1||!qBf s (aB s x.app).1.queue n.label (aB s x.app).1.user with
 | true=>exact(h.dP _).le (by omega)
 | false =>
  cases !oC (uU (aB s x.app).1.asks x.prio).1.size (wL s n.id)||!qBg s (aB s x.app).1.queue n.label (uU (aB s x.app).1.asks x.prio).1.size with
  | true=>exact h.le (by omega)
  | false=>exact qGl (h.dP _) fun k hk=>(show SeN k { s with slots:=_ } from hk).aB x.app
def qEa(s:Se)(n:Nd):Se×Int×Ct×Unit:=bif (mG s n true).2.1 != 0 then mG s n true else mG (mG s n true).1 n false
def qG(s:Se)(node:Int):Se×Int×Ct×Unit :=
 bif !(aU s node).2||!(aU s node).1.up||decide ((s.conts.length:Int)≥200)||decide (s.seq≥1048575) then(s,0,dCt,())
 else bif (gD s node).2 then(bif (kQ s (aU s node).1 (gD s node).1).2.2.2.1 then((kQ s (aU s node).1 (gD s node).1).1,(kQ s (aU s node).1 (gD s node).1).2.1,(kQ s (aU s node).1 (gD s node).1).2.2.1,()) else qEa (kQ s (aU s node).1 (gD s node).1).1 (aU s node).1)
 else qEa s (aU s node).1
theorem qLj{b:Nat}{c:CfE}{s:Se}{n:Nd}(h:bJ b c s):bJ (b+6) c (qEa s n).1:=by
 unfold qEa
 cases (mG s n true).2.1 != 0 with
 | true=>exact(vC true h).le (by omega)
 | false=>exact vC false (vC true h)
theorem qLk{b:Nat}{c:CfE}{s:Se}(node:Int)(h:bJ b c s):bJ (b+9) c (qG s node).1:=by
 unfold qG
 cases !(aU s node).2||!(aU s node).1.up||decide ((s.conts.length:Int)≥200)||decide (s.seq≥1048575) with
 | true=>exact h.le (by omega)
 | false =>
  cases (gD s node).2 with
  | false=>exact(qLj h).le (by omega)
  | true =>
   have hk:=qIk (n:=(aU s node).1) (x:=(gD s node).1) h
   cases (kQ s (aU s node).1 (gD s node).1).2.2.2.1 with
   | true=>exact hk.le (by omega)
   | false=>exact qLj hk
theorem zKk{s:Se}(node:Int){b:Nat}{c:CfE}(h:bJ b c s)(hb:b≤90000000):qGa s node=true∧qIR s node=qG s node:=zJR (by
 unfold qYD qG
 have hO:=h.pot.ok (show b≤1000000000 by omega)
 simp only[aM.2 hO,aK,aW]
 have htwo:∀(d:Nat) (v:Se),bJ d c v→d≤95000000→(need (nY v (aU s node).1 true) (br ((fE v (aU s node).1 true).2.1 != 0) (ret ((fE v (aU s node).1 true).1,(fE v (aU s node).1 true).2.1,(fE v (aU s node).1 true).2.2.1,()))
   (need (nY (fE v (aU s node).1 true).1 (aU s node).1 false) (ret ((fE (fE v (aU s node).1 true).1 (aU s node).1 false).1,(fE (fE v (aU s node).1 true).1 (aU s node).1 false).2.1,(fE (fE v (aU s node).1 true).1 (aU s node).1 false).2.2.1,()))))).G (qEa v (aU s node).1):=by
  intro d v hv hd
  have q1:=qNY (n:=(aU s node).1) true hv (by omega)
  have q2:=qNY (n:=(aU s node).1) false (vC (n:=(aU s node).1) true hv) (by omega)
  refine aF ?_
  simp only[sS,q1.1,q1.2,q2.1,q2.2,qEa]
  cases (mG v (aU s node).1 true).2.1 != 0<;>rfl
 have hx:∀t:DT (Se×Int×Ct×Unit),t.G (bif (gD s node).2 then(bif (kQ s (aU s node).1 (gD s node).1).2.2.2.1 then((kQ s (aU s node).1 (gD s node).1).1,(kQ s (aU s node).1 (gD s node).1).2.1,(kQ s (aU s node).1 (gD s node).1).2.2.1,()) else qEa (kQ s (aU s node).1 (gD s node).1).1 (aU s node).1) else qEa s (aU s node).1) →
   (br (!(aU s node).2) (ret (s,0,dCt,())) (br (!(aU s node).1.up) (ret (s,0,dCt,())) (br (decide ((s.conts.length:Int)≥200)) (ret (s,0,dCt,())) (br (decide (s.seq≥1048575)) (ret (s,0,dCt,())) t)))).G (qG s node):=by
  intro t ht
  unfold qG
  generalize (bif (gD s node).2 then _ else _:Se×Int×Ct×Unit)=X at ht ⊢
  generalize decide ((s.conts.length:Int)≥200)=p
  generalize decide (s.seq≥1048575)=q
  generalize (aU s node).2=u
  generalize (aU s node).1.up=w
  cases u<;>cases w<;>cases p<;>cases q<;>first | exact ht | exact aF rfl
 refine hx _ ?_
 have hb0:b≤95000000:=by omega
 have hb3:b+3≤95000000:=by omega
 have h2:=htwo b s h hb0
 have h3:=htwo (b+3) _ (qIk (n:=(aU s node).1) (x:=(gD s node).1) h) hb3
 have hq:=zGP (n:=(aU s node).1) (x:=(gD s node).1) h.sn h.gd.up (show b+2≤1000000000 by omega)
 clear htwo hx
 simp only[hq.1,hq.2,aW]
 generalize kQ s (aU s node).1 (gD s node).1=K at h3 ⊢
 generalize (gD s node).2=S
 cases S with
 | false =>
  simp only[cond_false,tV]
  exact DT.lG.2 ⟨.inl ((s,()),(dSe,()),(dCt,()),()),qHU.2 rfl,h2⟩
 | true =>
  obtain⟨k1,k2,k3,k4,_⟩:=K
  cases k4 with
  | true=>exact DT.lG.2 ⟨.inr (k1,k2,k3,()),qHU.2 rfl,rfl⟩
  | false=>exact DT.lG.2 ⟨.inl ((k1,()),(dSe,()),(dCt,()),()),qHU.2 rfl,h3⟩)
def qGp(node:Int):Nat→Se→Se
 | 0,s=>s
 | k+1,s=>bif (qG s node).2.1 != 1 then(qG s node).1 else qGp node k (qG s node).1
def qNZ(node:Int):Nat→Se→List Ct
 | 0,_=>[]
 | k+1,s=>bif (qG s node).2.1 != 1 then[] else(qG s node).2.2.1::qNZ node k (qG s node).1
def qWp(s:Se)(node:Int):Se:=qGp node 3 s
theorem qEC{c:CfE}(node:Int):∀(k:Nat) {b:Nat} {s:Se},bJ b c s→bJ (b+9*k) c (qGp node k s)
 | 0,b,s,h=>h
 | k+1,b,s,h=>by
  unfold qGp
  have h1:=qLk node h
  cases (qG s node).2.1 != 1 with
  | true=>exact h1.le (by omega)
  | false=>exact(qEC node k h1).le (by omega)
theorem zGV{s:Se}(node:Int){b:Nat}{c:CfE}(h:bJ b c s)(hb:b≤80000000):vO s node=true∧wS s node=(qWp s node,qNZ node 3 s,()):=zGx (by
 unfold qTc
 generalize hB:qWp s node=B
 generalize hX:qNZ node 3 s=X
 refine qX (fun st=>∃(l:List Ct) (k:Nat) (v:Se),st=(l,(k:Int),(v,()),())∧k≤3∧l.length≤3-(3-k)∧bJ (b+9*k) c v∧B=qGp node (3-k) v∧X=l++qNZ node (3-k) v) (fun st=>(3-st.2.1).toNat) ?_ ⟨[],0,s,rfl,by omega,by simp,h,hB.symm,hX.symm⟩
 rintro _ ⟨l,k,v,rfl,hk,hl,hv,h1,h2⟩
 rcases iw k 3 with hlt | hge
 ·have hq:=zKk node hv (by omega)
  have e1:decide ((k:Int)<3)=true:=by simp;omega
  have hm:3-k=(3-(k+1))+1:=by omega
  have hln:l.length≤1000000000:=by omega
  have e3:w64 ((k:Int)+1)=((k+1:Nat):Int):=by rw[dI]<;>omega
  rw[hm] at h1 h2
  unfold qGp at h1
  unfold qNZ at h2
  simp only[e1,jQ,hq.1,hq.2,mE]
  cases hd:(qG v node).2.1 != 1 with
  | true =>
   right
   rw[hd] at h1 h2
   simp only[cond_true] at h1 h2
   rw[h1,h2]
   simp only[dm,lv,fI,fq,tT,mE]
   refine uT (aF ?_)
   simp only[sS,eB]
  | false =>
   left
   rw[hd] at h1 h2
   simp only[cond_false] at h1 h2
   refine⟨(l++[(qG v node).2.2.1],((k+1:Nat):Int),((qG v node).1,()),()),aF ?_,⟨_,k+1,_,rfl,by omega,by simp;omega,(qLk node hv).le (by omega),h1,by rw[h2];simp⟩,by simp only[];omega⟩
   have hf:aT (l.length+1) 72=true:=dK (by omega) (by decide)
   simp only[sS,dm,hf,pJ,e3,dh,gz]
 ·right
  have hk3:k=3:=by omega
  subst hk3
  have e1:decide (((3:Nat):Int)<3)=false:=by decide
  rw[h1,h2]
  refine aF ?_
  have e2:(3-3:Nat)=0:=rfl
  simp only[sS,e1,e2,dm,eB,qGp,qNZ,lv])
end Go.Proofs.YtlmkakccmpncjaaGreatDoor
