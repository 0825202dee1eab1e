/- Part of the proof. No conditions. -/
import Derived.Test.YtehpnjmgjmkjaaaGreatDoorBg
namespace Go.Proofs.YtehpnjmgjmkjaaaGreatDoor
open Go Go.W Go.Proofs
open Go.W.DT (ret need br bad loop join)
set_option maxRecDepth 100000
def goE{α β γ:Type}(f:β→α→β ⊕ γ):List α→β→β ⊕ γ
 | [],b=>.inl b
 | a::l,b=>match f b a with | .inl b'=>goE f l b' | .inr r=>.inr r
theorem qAd{α β γ:Type}{f:β→α→β ⊕ γ}(I:β→Prop)(J:γ→Prop):∀(l:List α),(∀b a,a∈l→I b→Sum.elim I J (f b a))→∀{b:β},I b→Sum.elim I J (goE f l b)
 | [],_,b,h=>h
 | a::l,hs,b,h=>by
  have h1:=hs b a List.mem_cons_self h
  unfold goE
  cases hf:f b a with
  | inl b'=>rw[hf] at h1;exact qAd I J l (fun b a ha=>hs b a (List.mem_cons_of_mem _ ha)) h1
  | inr r=>rw[hf] at h1;exact h1
theorem qLC{α β γ ρ:Type}(f:β→α→β ⊕ γ)(fin:β→ρ)(out:γ→ρ):∀(l:List α) (b:β),scan (fun b a=>match f b a with | .inl b'=>.inl b' | .inr r=>.inr (out r)) fin l b=Sum.elim fin out (goE f l b)
 | [],b=>rfl
 | a::l,b=>by
  unfold scan goE
  cases f b a with
  | inl b'=>exact qLC f fin out l b'
  | inr r=>rfl
theorem qTK{α β γ σ ρ:Type}(l:List α)(d:α)(enc:Int→β→σ){body:σ→DT (σ ⊕ ρ)}(f:β→α→β ⊕ γ)(fin:β→ρ)(out:γ→ρ)(I:β→Prop)
  (hstep:∀(i:Nat) (b:β),i<l.length→I b→Sum.elim (fun b'=>I b'∧(body (enc (i:Int) b)).G (.inl (enc ((i+1:Nat):Int) b'))) (fun r=>(body (enc (i:Int) b)).G (.inr (out r))) (f b (l.getD i d)))
  (hend:∀b,I b→(body (enc (l.length:Int) b)).G (.inr (fin b))) {b0:β} (h0:I b0):(loop (enc 0 b0) body).G (Sum.elim fin out (goE f l b0)):=by
 refine jU l d enc (fun b a=>match f b a with | .inl b'=>.inl b' | .inr r=>.inr (out r)) fin (fun _ b=>I b) (fun i b hi hI=>?_) (fun b hb=>hend b hb) h0 (qLC f fin out l b0)
 have h1:=hstep i b hi hI
 cases hf:f b (l.getD i d) with
 | inl b'=>rw[hf] at h1;exact h1
 | inr r=>rw[hf] at h1;exact h1
theorem jP{α:Type}{t u:DT α}{x:α}:(br true t u).G x↔t.G x:=by simp
theorem fI{α:Type}{t u:DT α}{x:α}:(br false t u).G x↔u.G x:=by simp
theorem bH{α:Type}{t:DT α}{x:α}:(need true t).G x↔t.G x:=by simp
theorem mV{σ α:Type}{t:DT (σ ⊕ α)}{k:σ→DT α}{x:α}:(join (need true t) k).G x↔(join t k).G x:=by simp
theorem sZ{σ α:Type}{t u:DT (σ ⊕ α)}{k:σ→DT α}{x:α}:(join (br true t u) k).G x↔(join t k).G x:=by simp
theorem tC{σ α:Type}{t u:DT (σ ⊕ α)}{k:σ→DT α}{x:α}:(join (br false t u) k).G x↔(join u k).G x:=by simp
theorem qO4{β γ τ ζ:Type}{T:DT (ζ ⊕ τ)}{K:ζ→DT τ}{g:β ⊕ γ}{e:β→ζ}{f:γ→τ}(H:T.G (Sum.elim (fun w=>.inl (e w)) (fun r=>.inr (f r)) g)){P:β→Prop}{Q:γ→Prop}{A:β→τ}(hK:∀w,P w→(K (e w)).G (A w))(hP:Sum.elim P Q g) :
  Sum.elim (fun b=>P b∧(join T K).G (A b)) (fun r=>(join T K).G (f r)) g:=by
 revert H hP
 cases g with
 | inl w=>exact fun H hP=>⟨hP,aT _ H (hK w hP)⟩
 | inr r=>exact fun H hP=>rQ H
theorem qFE{s:Se}{label:Int}:∀(n:Nat) (p x:B),x∈iJ s label n p→x=p∨∃q∈s.conf.queues,q.path=x
 | 0,p,x,h=>by cases h
 | n+1,p,x,h=>by
  unfold iJ at h
  cases hz:((nH s p label).length:Int)==0 with
  | true=>rw[hz] at h;simp at h;exact .inl h
  | false =>
   rw[hz] at h
   simp only[cond_false] at h
   rcases qCl _ _ _ h with e | ⟨k,hk,e⟩
   ·cases e
   ·rcases qFE n _ x e with e2 | e2
    ·obtain⟨_,_,q,hq,e3⟩:=rE (qL5 hk)
     exact .inr ⟨q,hq,by rw[e2,e3]⟩
    ·exact .inr e2
def xL(n:Nd)(id:Int)(first:Bool)(s:Se)(x:Ak):Se ⊕ (Se×Int×Ct×Unit) :=
 bif (qBg s n (aB s id).1 x first).2.1 != 0 then .inr (qBg s n (aB s id).1 x first) else .inl (qBg s n (aB s id).1 x first).1
def qAW(n:Nd)(leaf:B)(first:Bool)(s:Se)(id:Int):Se ⊕ (Se×Int×Ct×Unit) :=
 bif !qCf s leaf n.label (aB s id).1.user then .inl s else goE (xL n id first) (aB s id).1.asks s
def uY(n:Nd)(first:Bool)(s:Se)(leaf:B):Se ⊕ (Se×Int×Ct×Unit):=goE (qAW n leaf first) (qEu s leaf) s
def rT(s:Se)(n:Nd)(first:Bool):Se×Int×Ct×Unit:=Sum.elim (fun s=>(s,0,dCt,())) id (goE (uY n first) (iJ s n.label 6 fG) s)
theorem qFF{b:Nat}{c:CfE}{s:Se}{n:Nd}{id:Int}(first:Bool)(x:Ak)(h:bI b c s∧(aB s id).2=true):Sum.elim (fun t=>bI b c t∧(aB t id).2=true) (fun r=>bI (b+3) c r.1) (xL n id first s x):=by
 have h1:=qWd (n:=n) (x:=x) first h.1 h.2
 unfold xL
 cases hk:(qBg s n (aB s id).1 x first).2.1 != 0 with
 | true=>exact h1.1
 | false=>exact h1.2 hk
theorem qHU{s:Se}{id:Int}(h:(aB s id).2=false):(aB s id).1.asks=[]:=by
 unfold aB findD at h ⊢
 cases hf:s.apps.find? (fun a=>a.id==id) with
 | none=>rfl
 | some a=>rw[hf] at h;cases h
theorem qFG{b:Nat}{c:CfE}{s:Se}{n:Nd}{leaf:B}(first:Bool)(id:Int)(h:bI b c s):Sum.elim (bI b c) (fun r=>bI (b+3) c r.1) (qAW n leaf first s id):=by
 unfold qAW
 cases !qCf s leaf n.label (aB s id).1.user with
 | true=>exact h
 | false =>
  simp only[cond_false]
  cases hf:(aB s id).2 with
  | false=>rw[qHU hf];exact h
  | true =>
   have:= qAd (f:=xL n id first) (fun t=>bI b c t∧(aB t id).2=true) (fun r=>bI (b+3) c r.1) (aB s id).1.asks (fun t x _ ht=>qFF first x ht) (b:=s) ⟨h,hf⟩
   revert this
   cases goE (xL n id first) (aB s id).1.asks s with
   | inl t=>exact fun e=>e.1
   | inr r=>exact fun e=>e
theorem qCo{b:Nat}{c:CfE}{s:Se}{n:Nd}(first:Bool)(leaf:B)(h:bI b c s):Sum.elim (bI b c) (fun r=>bI (b+3) c r.1) (uY n first s leaf) :=
 qAd (f:=qAW n leaf first) (bI b c) (fun r=>bI (b+3) c r.1) _ (fun _ id _ ht=>qFG first id ht) h
theorem uI{b:Nat}{c:CfE}{s:Se}{n:Nd}(first:Bool)(h:bI b c s):bI (b+3) c (rT s n first).1:=by
 unfold rT
 have:= qAd (f:=uY n first) (bI b c) (fun r=>bI (b+3) c r.1) (iJ s n.label 6 fG) (fun _ leaf _ ht=>qCo first leaf ht) h
 revert this
 cases goE (uY n first) (iJ s n.label 6 fG) s with
 | inl t=>exact fun e=>e.le (by omega)
 | inr r=>exact fun e=>e
theorem qWe(s:Se)(queue:B):(qEu s queue).length≤s.apps.length:=by
 unfold qEu
 rw[List.length_map]
 have: ∀(l:List Ap) (v:List Ap),(l.foldl (pW queue) v).length≤v.length+l.length:=by
  intro l
  induction l with
  | nil=>exact fun v=>Nat.le_refl _
  | cons a l ih=>intro v;have h1:=ih (pW queue v a);have h2:=xI queue v a;rw[List.foldl,List.length_cons];omega
 have h:=this s.apps []
 simpa using h
theorem bI.sn{b:Nat}{c:CfE}{s:Se}(h:bI b c s):SeN b s:=h.pot.sz
theorem qO5{s:Se}{n:Nd}(first:Bool){b:Nat}{c:CfE}(h:bI b c s)(hb:b≤100000000):oH s n first=true∧dB s n first=rT s n first:=zA3 (by
 unfold qOg rT
 have hO:=h.pot.ok (show b≤1000000000 by omega)
 have hg:=h.gd
 obtain⟨hl,hll⟩:=qTE n.label hO hg.up hg.few 6 fG (by decide) hg.deep 9 (by decide)
 have e1:qBT s fG n.label=true:=hl.1
 have e2:bL s fG n.label=(iJ s n.label 6 fG,()):=hl.2
 have hlp:∀x∈iJ s n.label 6 fG,x.length≤1000000000:=fun x hx=>by
  rcases qFE 6 _ _ hx with e | ⟨q,hq,e⟩
  ·rw[e];decide
  ·rw[←e];exact(hO.qu q hq).2
 simp only[qCg]
 refine bB e1 ?_
 simp only[e2]
 generalize iJ s n.label 6 fG=L at hll hlp ⊢
 have hL:L.length≤1000000000:=Nat.le_trans hll (by decide)
 refine qTK L [] (fun i (v:Se)=>(i,(v,()),())) (uY n first) (fun v=>(v,0,dCt,())) id (bI b c) (fun i v hi hv=>?_) (fun v hv=>aF (by simp only[sS,bM])) h
 have hv:bI b c v:=hv
 have hO:=hv.pot.ok (show b≤1000000000 by omega)
 have hleaf:(L.getD i []).length≤1000000000:=hlp _ (bT hi)
 have hkeep:=qCo (n:=n) first (L.getD i []) hv
 have ha:=zFi (L.getD i []) hO (Nat.le_trans hv.sn.apps hb)
 have hal:=Nat.le_trans (qWe v (L.getD i [])) hO.apps
 have hi1:=bF hi
 have hi2:=bG hi
 simp only[Int.toNat_natCast,ha.2,ha.1,hi1,hi2,jP,mV]
 have hun:uY n first v (L.getD i [])=goE (qAW n (L.getD i []) first) (qEu v (L.getD i [])) v:=rfl
 rw[hun] at hkeep ⊢
 generalize qEu v (L.getD i [])=ids at hal hkeep ⊢
 refine qO4 (e:=fun w=>((w,()),())) (f:=Sum.inr) ?_ (fun w _=>aF (by simp only[sS,aG hi hL])) hkeep
 refine qTK ids 0 (fun j (w:Se)=>(j,(w,()),())) (qAW n (L.getD i []) first) _ _ (bI b c) (fun j w hj hw=>?_) (fun w hw=>aF (by simp only[sS,bM])) hv
 have hw:bI b c w:=hw
 have hOw:=hw.pot.ok (show b≤1000000000 by omega)
 have hj1:=bF hj
 have hj2:=bG hj
 have hm:=qTA n.label (aB w (ids.getD j 0)).1.user hOw hw.gd.up hleaf
 have hk2:=qFG (n:=n) (leaf:=L.getD i []) first (ids.getD j 0) hw
 simp only[Int.toNat_natCast,hj1,hj2,jP,mV,aO.2 hOw,aN,hm.1,hm.2]
 unfold qAW at hk2 ⊢
 cases hmo:qCf w (L.getD i []) n.label (aB w (ids.getD j 0)).1.user with
 | false =>
  simp only[Bool.not_false,cond_true,sZ]
  exact⟨hw,aF (by simp only[sS,aG hj hal])⟩
 | true =>
  rw[hmo] at hk2
  simp only[Bool.not_true,cond_false,tC] at hk2 ⊢
  refine qO4 (e:=fun w=>((w,()),())) (f:=fun r=>Sum.inr (Sum.inr (Sum.inr r))) ?_ (fun w _=>aF (by simp only[sS,aG hj hal])) hk2
  cases hf:(aB w (ids.getD j 0)).2 with
  | false =>
   have ha0:=qHU hf
   rw[ha0]
   refine qTK [] dAk (fun k (u:Se)=>(k,(u,()),())) (xL n (ids.getD j 0) first) _ _ (fun _=>True) (fun k u hk _=>?_) (fun u _=>aF (by simp only[sS,bM])) trivial
   cases hk
  | true =>
   have hal2:(aB w (ids.getD j 0)).1.asks.length≤1000000000:=Nat.le_trans (hw.sn.aB _).asks (by omega)
   refine qTK (aB w (ids.getD j 0)).1.asks dAk (fun k (u:Se)=>(k,(u,()),())) (xL n (ids.getD j 0) first) _ _ (fun u=>bI b c u∧(aB u (ids.getD j 0)).2=true) (fun k u hk hu=>?_) (fun u _=>aF (by simp only[sS,bM])) ⟨hw,hf⟩
   have hu:bI b c u∧(aB u (ids.getD j 0)).2=true:=hu
   have hOu:=hu.1.pot.ok (show b≤1000000000 by omega)
   have hq:=zHG (n:=n) (x:=(aB w (ids.getD j 0)).1.asks.getD k dAk) first hu.1.sn (hu.1.sn.aB (ids.getD j 0)) hu.1.gd.up (show b+2≤1000000000 by omega)
   have hk3:=qFF (n:=n) first ((aB w (ids.getD j 0)).1.asks.getD k dAk) hu
   have hk1:=bF hk
   have hk4:=bG hk
   simp only[Int.toNat_natCast,hk1,hk4,jP,mV,aO.2 hOu,hq.1,hq.2]
   unfold xL at hk3 ⊢
   cases hkd:(qBg u n (aB u (ids.getD j 0)).1 ((aB w (ids.getD j 0)).1.asks.getD k dAk) first).2.1 != 0 with
   | true =>
    rw[hkd] at hk3
    simp only[cond_true,sZ]
    exact aF (by simp only[sS])
   | false =>
    rw[hkd] at hk3
    simp only[cond_false,tC]
    exact⟨hk3,aF (by simp only[sS,aG hk hal2])⟩)
theorem bI.bQ{b:Nat}{c:CfE}{s:Se}(h:bI b c s)(id:Int):bI b c (bQ s id):=by
 obtain⟨k,h1,h2⟩:=h.pot
 exact⟨⟨k,h1.bQ id,h2⟩,h.conf,h.ep,h.good,h.tidy.of rfl rfl⟩
theorem qHV{b:Nat}{c:CfE}{s:Se}{n:Nd}{x:Sl}(h:bI b c s):bI (b+3) c (nG s n x).1:=by
 unfold nG
 simp only[]
 cases !(aB s x.app).2||!live (aB s x.app).1||!(kZ (aB s x.app).1.asks x.prio).2||!qBf (kZ (aB s x.app).1.asks x.prio).1 n||!pU (kZ (aB s x.app).1.asks x.prio).1.size n.cap||!qF8 s (aB s x.app).1.queue (kZ (aB s x.app).1.asks x.prio).1||!qCf s (aB s x.app).1.queue n.label (aB s x.app).1.user with
 | true=>exact(h.bQ _).le (by omega)
 | false =>
  cases !pU (kZ (aB s x.app).1.asks x.prio).1.size (sH s n.id)||!qCh s (aB s x.app).1.queue n.label (kZ (aB s x.app).1.asks x.prio).1.size with
  | true=>exact h.le (by omega)
  | false=>exact qFD (h.bQ _) fun k hk=>(show SeN k { s with slots:=_ } from hk).aB x.app
def qHW(s:Se)(n:Nd):Se×Int×Ct×Unit:=bif (rT s n true).2.1 != 0 then rT s n true else rT (rT s n true).1 n false
def tV(s:Se)(node:Int):Se×Int×Ct×Unit :=
 bif !(aQ s node).2||!(aQ s node).1.up||decide ((s.conts.length:Int)≥200)||decide (s.seq≥1048575) then(s,0,dCt,())
 else bif (eY s node).2 then(bif (nG s (aQ s node).1 (eY s node).1).2.2.2.1 then((nG s (aQ s node).1 (eY s node).1).1,(nG s (aQ s node).1 (eY s node).1).2.1,(nG s (aQ s node).1 (eY s node).1).2.2.1,()) else qHW (nG s (aQ s node).1 (eY s node).1).1 (aQ s node).1)
 else qHW s (aQ s node).1
theorem qLD{b:Nat}{c:CfE}{s:Se}{n:Nd}(h:bI b c s):bI (b+6) c (qHW s n).1:=by
 unfold qHW
 cases (rT s n true).2.1 != 0 with
 | true=>exact(uI true h).le (by omega)
 | false=>exact uI false (uI true h)
theorem qLE{b:Nat}{c:CfE}{s:Se}(node:Int)(h:bI b c s):bI (b+9) c (tV s node).1:=by
 unfold tV
 cases !(aQ s node).2||!(aQ s node).1.up||decide ((s.conts.length:Int)≥200)||decide (s.seq≥1048575) with
 | true=>exact h.le (by omega)
 | false =>
  cases (eY s node).2 with
  | false=>exact(qLD h).le (by omega)
  | true =>
   have hk:=qHV (n:=(aQ s node).1) (x:=(eY s node).1) h
   cases (nG s (aQ s node).1 (eY s node).1).2.2.2.1 with
   | true=>exact hk.le (by omega)
   | false=>exact qLD hk
theorem zHJ{s:Se}(node:Int){b:Nat}{c:CfE}(h:bI b c s)(hb:b≤90000000):qF4 s node=true∧xG s node=tV s node:=zH0 (by
 unfold qYm tV
 have hO:=h.pot.ok (show b≤1000000000 by omega)
 simp only[aO.2 hO,aN,bH]
 have htwo:∀(d:Nat) (v:Se),bI d c v→d≤95000000→(need (oH v (aQ s node).1 true) (br ((dB v (aQ s node).1 true).2.1 != 0) (ret ((dB v (aQ s node).1 true).1,(dB v (aQ s node).1 true).2.1,(dB v (aQ s node).1 true).2.2.1,()))
   (need (oH (dB v (aQ s node).1 true).1 (aQ s node).1 false) (ret ((dB (dB v (aQ s node).1 true).1 (aQ s node).1 false).1,(dB (dB v (aQ s node).1 true).1 (aQ s node).1 false).2.1,(dB (dB v (aQ s node).1 true).1 (aQ s node).1 false).2.2.1,()))))).G (qHW v (aQ s node).1):=by
  intro d v hv hd
  have q1:=qO5 (n:=(aQ s node).1) true hv (by omega)
  have q2:=qO5 (n:=(aQ s node).1) false (uI (n:=(aQ s node).1) true hv) (by omega)
  refine aF ?_
  simp only[sS,q1.1,q1.2,q2.1,q2.2,qHW]
  cases (rT v (aQ s node).1 true).2.1 != 0<;>rfl
 have hx:∀t:DT (Se×Int×Ct×Unit),t.G (bif (eY s node).2 then(bif (nG s (aQ s node).1 (eY s node).1).2.2.2.1 then((nG s (aQ s node).1 (eY s node).1).1,(nG s (aQ s node).1 (eY s node).1).2.1,(nG s (aQ s node).1 (eY s node).1).2.2.1,()) else qHW (nG s (aQ s node).1 (eY s node).1).1 (aQ s node).1) else qHW s (aQ s node).1) →
   (br (!(aQ s node).2) (ret (s,0,dCt,())) (br (!(aQ s node).1.up) (ret (s,0,dCt,())) (br (decide ((s.conts.length:Int)≥200)) (ret (s,0,dCt,())) (br (decide (s.seq≥1048575)) (ret (s,0,dCt,())) t)))).G (tV s node):=by
  intro t ht
  unfold tV
  generalize (bif (eY s node).2 then _ else _:Se×Int×Ct×Unit)=X at ht ⊢
  generalize decide ((s.conts.length:Int)≥200)=p
  generalize decide (s.seq≥1048575)=q
  generalize (aQ s node).2=u
  generalize (aQ s node).1.up=w
  cases u<;>cases w<;>cases p<;>cases q<;>first | exact ht | exact aF rfl
 refine hx _ ?_
 have hb0:b≤95000000:=by omega
 have hb3:b+3≤95000000:=by omega
 have h2:=htwo b s h hb0
 have h3:=htwo (b+3) _ (qHV (n:=(aQ s node).1) (x:=(eY s node).1) h) hb3
 have hq:=zFh (n:=(aQ s node).1) (x:=(eY s node).1) h.sn h.gd.up (show b+2≤1000000000 by omega)
 clear htwo hx
 simp only[hq.1,hq.2,bH]
 generalize nG s (aQ s node).1 (eY s node).1=K at h3 ⊢
 generalize (eY s node).2=S
 cases S with
 | false =>
  simp only[cond_false,tC]
  exact DT.lK.2 ⟨.inl ((s,()),(dSe,()),(dCt,()),()),qH0.2 rfl,h2⟩
 | true =>
  obtain⟨k1,k2,k3,k4,_⟩:=K
  cases k4 with
  | true=>exact DT.lK.2 ⟨.inr (k1,k2,k3,()),qH0.2 rfl,rfl⟩
  | false=>exact DT.lK.2 ⟨.inl ((k1,()),(dSe,()),(dCt,()),()),qH0.2 rfl,h3⟩)
def qLF(node:Int):Nat→Se→Se
 | 0,s=>s
 | k+1,s=>bif (tV s node).2.1 != 1 then(tV s node).1 else qLF node k (tV s node).1
def qO6(node:Int):Nat→Se→List Ct
 | 0,_=>[]
 | k+1,s=>bif (tV s node).2.1 != 1 then[] else(tV s node).2.2.1::qO6 node k (tV s node).1
def qWf(s:Se)(node:Int):Se:=qLF node 3 s
theorem qEx{c:CfE}(node:Int):∀(k:Nat) {b:Nat} {s:Se},bI b c s→bI (b+9*k) c (qLF node k s)
 | 0,b,s,h=>h
 | k+1,b,s,h=>by
  unfold qLF
  have h1:=qLE node h
  cases (tV s node).2.1 != 1 with
  | true=>exact h1.le (by omega)
  | false=>exact(qEx node k h1).le (by omega)
theorem zFm{s:Se}(node:Int){b:Nat}{c:CfE}(h:bI b c s)(hb:b≤80000000):uX s node=true∧jN s node=(qWf s node,qO6 node 3 s,()):=zEG (by
 unfold qTy
 generalize hB:qWf s node=B
 generalize hX:qO6 node 3 s=X
 refine qP (fun st=>∃(l:List Ct) (k:Nat) (v:Se),st=(l,(k:Int),(v,()),())∧k≤3∧l.length≤3-(3-k)∧bI (b+9*k) c v∧B=qLF node (3-k) v∧X=l++qO6 node (3-k) v) (fun st=>(3-st.2.1).toNat) ?_ ⟨[],0,s,rfl,by omega,by simp,h,hB.symm,hX.symm⟩
 rintro _ ⟨l,k,v,rfl,hk,hl,hv,h1,h2⟩
 rcases Nat.lt_or_ge k 3 with hlt | hge
 ·have hq:=zHJ node hv (by omega)
  have e1:decide ((k:Int)<3)=true:=by simp;omega
  have hm:3-k=(3-(k+1))+1:=by omega
  have hln:l.length≤1000000000:=by omega
  have e3:w64 ((k:Int)+1)=((k+1:Nat):Int):=by rw[fE]<;>omega
  rw[hm] at h1 h2
  unfold qLF at h1
  unfold qO6 at h2
  simp only[e1,jP,hq.1,hq.2,mV]
  cases hd:(tV v node).2.1 != 1 with
  | true =>
   right
   rw[hd] at h1 h2
   simp only[cond_true] at h1 h2
   rw[h1,h2]
   simp only[Nat.zero_add,List.append_nil,nN,Bool.and_true,sZ,mV]
   refine rQ (aF ?_)
   simp only[sS]
  | false =>
   left
   rw[hd] at h1 h2
   simp only[cond_false] at h1 h2
   refine⟨(l++[(tV v node).2.2.1],((k+1:Nat):Int),((tV v node).1,()),()),aF ?_,⟨_,k+1,_,rfl,by omega,by simp;omega,(qLE node hv).le (by omega),h1,by rw[h2];simp⟩,by simp only[];omega⟩
   have hf:aX (l.length+1) 72=true:=eF (by omega) (by decide)
   simp only[sS,hf,e3]
 ·right
  have hk3:k=3:=by omega
  subst hk3
  have e1:decide (((3:Nat):Int)<3)=false:=by decide
  rw[h1,h2]
  refine aF ?_
  have e2:(3-3:Nat)=0:=rfl
  simp only[sS,e1,e2,qLF,qO6,List.append_nil])
end Go.Proofs.YtehpnjmgjmkjaaaGreatDoor
