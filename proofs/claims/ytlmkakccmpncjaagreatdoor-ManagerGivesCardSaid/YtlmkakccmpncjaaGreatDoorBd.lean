/- Part of the proof: texts Bg Bh. No conditions. -/
import Derived.Test.YtlmkakccmpncjaaGreatDoorBc
set_option linter.all false
namespace Go.Proofs.YtlmkakccmpncjaaGreatDoor
open Go Go.W Go.Proofs
open Go.W.DT (ret need br bad loop join)
set_option maxRecDepth 100000
theorem qKY{α σ ρ:Type}(l:List α)(d:α)(enc:Int→σ){body:σ→DT (σ ⊕ ρ)}(p:α→Bool)(fin:Nat→ρ)
  (hstep:∀i:Nat,i<l.length→(body (enc (i:Int))).run=some (bif p (l.getD i d) then .inl (enc ((i+1:Nat):Int)) else .inr (fin i)))
  (hend:(body (enc (l.length:Int))).run=some (.inr (fin l.length))):(DT.loop (enc 0) body).G (fin (l.takeWhile p).length):=by
 refine qPc l d (fun i (_:Unit)=>enc i) (fun i _ a=>bif p a then .inl () else .inr (fin i)) (fun i _=>fin i) (fun _ _=>True) (fun i b hi _=>?_) (fun b _=>aF hend) (b0:=()) trivial ?_
 ·have:= hstep i hi
  cases hc:p (l.getD i d)<;>rw[hc] at this<;>simp only[cond_true,cond_false]
  ·exact aF this
  ·exact⟨trivial,aF this⟩
 ·rw[qBM p fin l 0,dm]
section
variable {α ρ:Type} {l xs:List α} {k sz:Nat} {x:α}
theorem qGg(p:α→Bool):(l.takeWhile p).length≤l.length:=(ow _).length_le
theorem zNf(hk:k≤l.length)(hn:l.length≤1000000000)(hs:sz≤100000) :
  (need (decide ((0:Int)≤(k:Int))&&decide ((k:Int)≤(l.length:Int))&&true&&true) (need (aT (0+List.length (@aO α 0 (Int.toNat (k:Int)) l)) sz&&true) (need ((0+List.length (@aO α 0 (Int.toNat (k:Int)) l)).beq ([] ++ @aO α 0 (Int.toNat (k:Int)) l).length) (ret (Sum.inl ([] ++ @aO α 0 (Int.toNat (k:Int)) l,()):(List α×Unit) ⊕ ρ))))).run=some (Sum.inl (l.take k,())):=by
 have h1:decide ((k:Int)≤(l.length:Int))=true:=by simp;omega
 have h2:(l.take k).length≤1000000000:=by rw[ed];omega
 simp only[sS,qCr,h1,dK h2 hs]
theorem zBY(hn:xs.length<1000000000)(hs:sz≤100000) :
  (need ((0+xs.length).beq xs.length) (need (aT (xs.length+1) sz&&(0+xs.length).ble xs.length) (need ((xs.length+1).beq (@bF α 0 xs.length xs++[x]).length) (ret (Sum.inl (@bF α 0 xs.length xs++[x],()):(List α×Unit) ⊕ ρ))))).run=some (Sum.inl (xs++[x],())):=by
 simp only[sS,dK (show xs.length+1≤1000000000 by omega) hs]
theorem zGM:@aO α (Int.toNat (k:Int)) (l.length:Int).toNat l=l.drop k:=by rw[di,di,wG]
theorem zGN(hk:k≤l.length):slB (k:Int) (l.length:Int) (l.length:Int)=true:=qI7.2 ⟨by omega,by omega,by omega⟩
end
theorem zBZ(l:List Ak)(prio:Int):(qKo l prio).1.length≤l.length:=by
 have:= qKn (fun i (v:Bool×List Ak)=>v.2.length≤i) (qHm prio) (fun i v a h=>qKp prio i v a h) l 0 (false,[]) (df 0)
 rw[dm] at this
 exact this
def kP(s:Se):Int:=w64 (w64 (s.epoch*2 ^ 20)+w64 (s.seq+1))
def qHx(s:Se)(a:Ap)(x:Ak):Ap:=bif a.state==1 then{ a with state:=2,asks:=[],seen:=s.now,beat:=0 } else{ a with asks:=(qKo a.asks x.prio).1,grants:=a.grants++[kP s] }
def oD(s:Se)(n:Nd)(a:Ap)(x:Ak):Ct:=⟨kP s,a.id,n.id,x.size,x.prio,n.label,a.state==1,0⟩
def mD(s:Se)(n:Nd)(a:Ap)(x:Ak):Se×Ct :=
 (dW { s with conts:=qHg (·.id) (oD s n a x) s.conts,seq:=w64 (s.seq+1) } (qHx s a x),oD s n a x)
theorem qKZ{α:Type}(key:α→Int)(x:α)(l:List α):(qHg key x l).length=l.length+1:=by
 unfold qHg
 have:= qGg (l:=l) (fun a=>decide (key a<key x))
 simp only[dh,ed,il,dw,gq]
 omega
theorem zGO{k:Nat}{s:Se}{a:Ap}(x:Ak)(ha:ApN k a):ApN (k+1) (qHx s a x):=by
 have h:=ha.le (jv k)
 unfold qHx
 cases a.state==1 with
 | true=>exact⟨cz _,h.2,h.3,h.4,h.5,h.6⟩
 | false=>exact⟨bq (zBZ _ _) h.1,by show(a.grants++[kP s]).length≤k+1;have:= ha.2;simp;omega,h.3,h.4,h.5,h.6⟩
theorem SeN.zL1{k:Nat}{s:Se}(h:SeN k s)(c:Ct)(q:Int):SeN (k+1) { s with conts:=qHg (·.id) c s.conts,seq:=q }:=by
 have g:=h.le (jv k)
 exact⟨g.1,g.2,by rw[qKZ];exact qg h.3,g.4,g.5,g.6,g.7,g.8,g.9,g.10⟩
theorem SeN.mD{k:Nat}{s:Se}{n:Nd}{a:Ap}{x:Ak}(h:SeN k s)(ha:ApN k a):SeN (k+2) (mD s n a x).1 :=
 (h.zL1 (oD s n a x) _).dW ((zGO x ha).le (jv _))
theorem qNR{s:Se}{n:Nd}{a:Ap}{x:Ak}{k:Nat}(h:SeN k s)(ha:ApN k a)(hk:k+2≤1000000000):rF s n a x=true∧qAe s n a x=((mD s n a x).1,(mD s n a x).2,()):=zB5 (by
 unfold qN0
 have hs:=h.ok (show k≤1000000000 by omega)
 have hA:=ha.ok (show k≤1000000000 by omega)
 have hn:=hs.conts
 refine aH (eH.2 hA.asks) ?_
 refine aN ((qHx s a x,()),()) (aF ?_) ?_
 ·have hg:a.grants.length+1≤1000000000:=by have:= ha.2;omega
  have e:@aO Int 0 (a.grants.length+1) (a.grants++[kP s])=a.grants++[kP s]:=by
   have:= eB (a.grants++[kP s]);rwa [dh] at this
  unfold kP at e
  simp only[sS,dK hg (by decide:8≤100000),dK hA.grants (by decide:8≤100000),aK,qHx,kP,e]
  cases a.state==1<;>rfl
 have hkk:=qGg (l:=s.conts) (fun c=>decide (c.id<kP s))
 refine aN ((((s.conts.takeWhile fun c=>decide (c.id<kP s)).length:Nat):Int),()) (qKY s.conts dCt (fun i=>(i,())) (fun c=>decide (c.id<kP s)) (fun i=>Sum.inl ((i:Int),())) (fun i hi=>?_) ?_) ?_
 ·simp only[sS,bB hi,aY hi,aD hi hn,kP]
  grind
 ·simp only[sS,bE]
 ·generalize hkd:(s.conts.takeWhile fun c=>decide (c.id<kP s)).length=p at hkk ⊢
  have htl:(s.conts.take p).length=p:=by rw[ed];omega
  refine aN (s.conts.take p,()) (aF (zNf hkk hn (by decide))) ?_
  refine aN (s.conts.take p++[oD s n a x],()) (aF (zBY (by have:= h.3;rw[htl];omega) (by decide))) ?_
  have hm:=aM.2 ((h.zL1 (oD s n a x) (w64 (s.seq+1))).ok (by omega))
  have e0:qHg (·.id) (oD s n a x) s.conts=(s.conts.take p++[oD s n a x])++s.conts.drop p:=by
   unfold qHg
   simp only[←hkd]
   rfl
  have hl3:((s.conts.take p++[oD s n a x]).length+(s.conts.drop p).length)≤1000000000:=by
   have:= h.3
   simp only[dh,ed,il,dw,gq]
   omega
  rw[e0] at hm
  unfold mD
  rw[e0]
  generalize s.conts.take p++[oD s n a x]=xs at hm hl3 ⊢
  refine aF ?_
  have e3:List.take (xs.length+(s.conts.drop p).length) (xs++s.conts.drop p)=xs++s.conts.drop p:=by rw[←dh,iq]
  simp only[sS,wG,zGN hkk,dK hl3 (by decide:72≤100000),aK,e3,hm]
  rfl)
def kQ(s:Se)(n:Nd)(x:Sl):Se×Int×Ct×Bool×Unit :=
 let a:=(aB s x.app).1
 let k:=(uU a.asks x.prio).1
 bif !(aB s x.app).2||!live a||!(uU a.asks x.prio).2||!zY k n||!oC k.size n.cap||!qCw s a.queue k||!qBf s a.queue n.label a.user then(dP s n.id,0,dCt,false,())
 else bif !oC k.size (wL s n.id)||!qBg s a.queue n.label k.size then(s,3,dCt,true,())
 else((mD (dP s n.id) n a k).1,1,(mD (dP s n.id) n a k).2,true,())
theorem zGP{s:Se}{n:Nd}{x:Sl}{k:Nat}(h:SeN k s)(hu:qHw s.conf)(hk:k+2≤1000000000):qD3 s n x=true∧qFW s n x=kQ s n x:=zGt (by
 unfold qSY kQ
 have hs:=h.ok (show k≤1000000000 by omega)
 have hA:=h.aB x.app
 have hq:(aB s x.app).1.queue.length≤1000000000:=bq hA.6 (by omega)
 have hk1:(aB s x.app).1.asks.length≤1000000000:=bq hA.1 (by omega)
 have hg:=qNR (n:=n) (x:=(uU (aB s x.app).1.asks x.prio).1) (h.dP n.id) hA hk
 have hd:=qYU (uU (aB s x.app).1.asks x.prio).1 hs hu hq
 have hm:=qTq n.label (aB s x.app).1.user hs hu hq
 have hr:=qTr n.label (uU (aB s x.app).1.asks x.prio).1.size hs hu hq
 refine aF ?_
 simp only[sS,aK,aM.2 hs,eH.2 hk1,(lM _).1,(lM _).2,hg.1,hg.2,hd.1,hd.2,hm.1,hm.2,hr.1,hr.2,oC]
 cases (aB s x.app).2<;>(try rfl)
 cases live (aB s x.app).1<;>(try rfl)
 cases (uU (aB s x.app).1.asks x.prio).2<;>(try rfl)
 cases zY (uU (aB s x.app).1.asks x.prio).1 n<;>(try rfl)
 cases decide ((uU (aB s x.app).1.asks x.prio).1.size.mem≤n.cap.mem)<;>(try rfl)
 cases decide ((uU (aB s x.app).1.asks x.prio).1.size.cores≤n.cap.cores)<;>(try rfl)
 cases qCw s (aB s x.app).1.queue (uU (aB s x.app).1.asks x.prio).1<;>(try rfl)
 cases qBf s (aB s x.app).1.queue n.label (aB s x.app).1.user<;>(try rfl)
 cases decide ((uU (aB s x.app).1.asks x.prio).1.size.mem≤(wL s n.id).mem)<;>(try rfl)
 cases decide ((uU (aB s x.app).1.asks x.prio).1.size.cores≤(wL s n.id).cores)<;>(try rfl)
 cases qBg s (aB s x.app).1.queue n.label (uU (aB s x.app).1.asks x.prio).1.size<;>rfl)
def tQ(s:Se)(n:Nd)(a:Ap)(x:Ak)(first:Bool):Se×Int×Ct×Unit :=
 let is:=qCw s a.queue x
 bif xR x n==4||!oC x.size n.cap||first&&!is then(s,0,dCt,())
 else bif !zY x n then(bif first==is then dW s { a with asks:=qNP a.asks x.prio } else s,0,dCt,())
 else bif !qBg s a.queue n.label x.size then(s,0,dCt,())
 else bif oC x.size (wL s n.id) then((mD s n a x).1,1,(mD s n a x).2,())
 else bif first&&!qAO s a.id x.prio then(qE0 s ⟨n.id,a.id,x.prio⟩,2,dCt,())
 else(s,0,dCt,())
theorem zKh{s:Se}{n:Nd}{a:Ap}{x:Ak}{k:Nat}(first:Bool)(h:SeN k s)(ha:ApN k a)(hu:qHw s.conf)(hk:k+2≤1000000000):qFV s n a x first=true∧qIP s n a x first=tQ s n a x first:=zJP (by
 unfold qYB tQ
 have hs:=h.ok (show k≤1000000000 by omega)
 have hq:a.queue.length≤1000000000:=bq ha.6 (by omega)
 have hk1:a.asks.length≤1000000000:=bq ha.1 (by omega)
 have hg:=qNR (n:=n) (x:=x) h ha hk
 have hd:=qYU x hs hu hq
 have hr:=qTr n.label x.size hs hu hq
 have hmi:=zKf x.prio hk1
 refine aF ?_
 simp only[sS,aK,aM.2 hs,hg.1,hg.2,hd.1,hd.2,hr.1,hr.2,hmi.1,hmi.2,oC]
 cases xR x n==4<;>(try rfl)
 cases decide (x.size.mem≤n.cap.mem)<;>(try rfl)
 cases decide (x.size.cores≤n.cap.cores)<;>(try rfl)
 generalize qCw s a.queue x=isDue
 cases first<;>cases isDue<;>(try rfl)<;>cases zY x n<;>(try rfl)<;>cases qBg s a.queue n.label x.size<;>(try rfl)<;>cases decide (x.size.mem≤(wL s n.id).mem)<;>(try rfl)<;>cases decide (x.size.cores≤(wL s n.id).cores)<;>(try rfl)<;>cases qAO s a.id x.prio<;>rfl)
end Go.Proofs.YtlmkakccmpncjaaGreatDoor
namespace Go.Proofs.YtlmkakccmpncjaaGreatDoor
open Go Go.W Go.Proofs
open Go.W.DT (ret need br bad loop join)
set_option maxRecDepth 100000
section
variable {α ρ:Type} {l xs:List α} {k sz:Nat} {x:α}
theorem zNg(hk:k≤l.length)(hn:l.length≤1000000000)(hs:sz≤100000) :
  (need (decide ((0:Int)≤(k:Int))&&decide ((k:Int)≤((Nat.max 0 l.length:Nat):Int))) (need ((0+((k:Int)-0).toNat).ble l.length) (need (aT (0+((k:Int)-0).toNat) sz&&true) (need ((0+((k:Int)-0).toNat).beq ([] ++ @bF α 0 ((k:Int)-0).toNat l).length) (ret (Sum.inl ([] ++ @bF α 0 ((k:Int)-0).toNat l,()):(List α×Unit) ⊕ ρ)))))).run=some (Sum.inl (l.take k,())):=by
 have h1:decide ((k:Int)≤((Nat.max 0 l.length:Nat):Int))=true:=by
  have: Nat.max 0 l.length=l.length:=Nat.max_eq_right (cz _)
  rw[this];simp;omega
 have h2:((k:Int)-0).toNat=k:=by omega
 have h3:bF 0 k l=l.take k:=by simp[bF]
 have h4:Nat.ble k l.length=true:=qHb.2 hk
 have h5:(l.take k).length=k:=by rw[ed];omega
 simp only[sS,qCr,h1,h2,h3,h4,h5,dK (show k≤1000000000 by omega) hs]
theorem zNh(hk:k≤l.length)(hn:xs.length+l.length≤1000000000)(hs:sz≤100000) :
  (need (inB (k:Int) (l.length:Int) ((Nat.max 0 l.length:Nat):Int)) (need ((0+Int.toNat (k:Int)+((l.length:Int)-(k:Int)).toNat).ble l.length) (need ((0+xs.length).beq xs.length) (need (aT (xs.length+((l.length:Int)-(k:Int)).toNat) sz&&(0+xs.length).ble xs.length) (need ((xs.length+((l.length:Int)-(k:Int)).toNat).beq (@bF α 0 xs.length xs ++ @bF α (0+Int.toNat (k:Int)) ((l.length:Int)-(k:Int)).toNat l).length) (ret (Sum.inl (@bF α 0 xs.length xs ++ @bF α (0+Int.toNat (k:Int)) ((l.length:Int)-(k:Int)).toNat l,()):(List α×Unit) ⊕ ρ))))))).run=some (Sum.inl (xs++l.drop k,())):=by
 have h1:inB (k:Int) (l.length:Int) ((Nat.max 0 l.length:Nat):Int)=true:=by
  have: Nat.max 0 l.length=l.length:=Nat.max_eq_right (cz _)
  rw[this];exact qDb.2 ⟨by omega,by omega,by omega⟩
 have h2:((l.length:Int)-(k:Int)).toNat=l.length-k:=by omega
 have h3:bF k (l.length-k) l=l.drop k:=by
  unfold bF;apply kz;rw[il];exact df _
 have h4:Nat.ble (k+(l.length-k)) l.length=true:=qHb.2 (by omega)
 have h5:(l.drop k).length=l.length-k:=il
 simp only[sS,h1,h2,h3,h4,h5,dK (show xs.length+(l.length-k)≤1000000000 by omega) hs]
end
def qDR{α:Type}(p:α→Bool)(x:α)(l:List α):List α:=(l.takeWhile p++[x])++l.dropWhile p
theorem qIT{α:Type}(p:α→Bool)(x:α)(l:List α):(l.take (l.takeWhile p).length++[x])++l.drop (l.takeWhile p).length=qDR p x l:=by
 unfold qDR;rw[(qXJ p l).1,(qXJ p l).2]
theorem qCy{α:Type}(p:α→Bool)(x:α)(l:List α):(qDR p x l).length=l.length+1:=by
 rw[←qIT]
 have:= qGg (l:=l) p
 simp only[dh,ed,il,dw,gq]
 omega
def pU(queue:B)(out:List Ap)(a:Ap):List Ap:=bif live a&&a.queue==queue then qDR (fun b=>decide (b.prio≥a.prio)) a out else out
def qE9(s:Se)(queue:B):List Int:=(s.apps.foldl (pU queue) []).map (·.id)
theorem qTs{α β:Type}(f:List β→α→List β)(h:∀v a,(f v a).length≤v.length+1):∀(l:List α) (v:List β),(l.foldl f v).length≤v.length+l.length
 | [],v=>df _
 | a::l,v=>by
  rw[List.foldl,dw]
  exact bq (qTs f h l _) (by have:= h v a;omega)
theorem yC(queue:B)(v:List Ap)(a:Ap):(pU queue v a).length≤v.length+1:=by
 unfold pU
 cases live a&&a.queue==queue with
 | true=>simp only[cond_true,qCy];exact df _
 | false=>exact jv _
theorem zGQ{s:Se}(queue:B)(h:dH s)(hn:s.apps.length≤100000000):qDo s queue=true∧qCa s queue=(qE9 s queue,()):=zGd (by
 unfold qSK
 have hN:=h.apps
 refine aN (s.apps.foldl (pU queue) [],()) (nM s.apps dAp (fun i (v:List Ap)=>(v,i,())) (pU queue) (fun v=>Sum.inl (v,())) (fun i v=>v.length≤i) (fun i v hi hI=>⟨?_,?_⟩) (fun v hI=>aF ?_) (b0:=[]) (df 0)) ?_
 ·have:= yC queue v (s.apps.getD i dAp);omega
 ·have hl:=yC queue v (s.apps.getD i dAp)
  have hI:v.length≤i:=hI
  refine bW (aY hi) (aN (pU queue v (s.apps.getD i dAp),()) ?_ (aF (by simp only[sS,aD hi hN])))
  refine aH (bB hi) (aH (lM _).1 ?_)
  rw[(lM _).2]
  simp only[di]
  unfold pU
  cases hlv:live (s.apps.getD i dAp) with
  | false=>exact aF (by simp only[sS])
  | true =>
  cases hq:(s.apps.getD i dAp).queue==queue with
  | false=>exact aF (by simp only[sS])
  | true =>
  refine aV rfl (aV rfl ?_)
  simp only[uy,cond_true]
  refine aN ((((v.takeWhile fun b=>decide (b.prio≥(s.apps.getD i dAp).prio)).length:Nat):Int),()) (qKY v dAp (fun k=>(k,())) (fun b=>decide (b.prio≥(s.apps.getD i dAp).prio)) (fun k=>Sum.inl ((k:Int),())) (fun k hk=>?_) ?_) ?_
  ·simp only[sS,qCr,aY hk,qCv hk,aD hk (show v.length≤1000000000 by omega)]
   grind
  ·simp only[sS,bE]
  ·have hkk:=qGg (l:=v) (fun b=>decide (b.prio≥(s.apps.getD i dAp).prio))
   refine aN (v.take (v.takeWhile fun b=>decide (b.prio≥(s.apps.getD i dAp).prio)).length,()) (aF (zNg hkk (by omega) (by decide))) ?_
   refine aN (v.take (v.takeWhile fun b=>decide (b.prio≥(s.apps.getD i dAp).prio)).length++[s.apps.getD i dAp],()) (aF (zBY (by rw[ed];omega) (by decide))) ?_
   rw[←qIT]
   exact aF (zNh hkk (by rw[dh,ed,gz];omega) (by decide))
 ·simp only[sS,bE]
 ·have hl:=qTs (pU queue) (yC queue) s.apps []
  unfold qE9
  generalize s.apps.foldl (pU queue) []=out at hl ⊢
  have hl:out.length≤1000000000:=by simp at hl;omega
  have e:out.map (·.id)=out.foldl (fun v a=>v++[a.id]) []:=by
   have: ∀(l:List Ap) (v:List Int),l.foldl (fun v a=>v++[a.id]) v=v++l.map (·.id):=by
    intro l
    induction l with
    | nil=>intro v;simp
    | cons a l ih=>intro v;rw[List.foldl,ih];simp
   rw[this];rfl
  rw[e]
  refine jZ out dAp (fun i (v:List Int)=>(v,i,())) (fun v a=>v++[a.id]) (fun v=>(v,())) (fun i v=>v.length≤i) (fun i v hi hI=>⟨by simp;omega,?_⟩) (fun v hI=>?_) (b0:=[]) (df 0)
  ·have hI:v.length≤i:=hI
   simp only[sS,qCr,aY hi,qCv hi,aD hi hl,dK (show v.length+1≤1000000000 by omega) (by decide:8≤100000)]
  ·simp only[sS,bE])
def mV(s:Se)(path:B)(label:Int):List B:=(fG s.conf path).foldl (fun out a=>qDR (fun b=>!kW s a b label) a out) []
theorem rU{c:Cf}{path k:B}(h:k∈fG c path):eO k=path∧path≠[]∧∃q∈c.queues,q.path=k:=by
 unfold fG at h
 rw[List.mem_filterMap] at h
 obtain⟨q,hq,e⟩:=h
 cases h1:path==[]<;>cases h2:eO q.path==path<;>rw[h1,h2] at e<;>simp at e
 subst e
 exact⟨by simpa using h2,by simpa using h1,q,hq,rfl⟩
theorem qHy(c:Cf)(path:B):(fG c path).length≤c.queues.length:=ll _ _
theorem qLa{α:Type}{p:α→Bool}{x a:α}{l:List α}(h:a∈qDR p x l):a=x∨a∈l:=by
 unfold qDR at h
 simp only[dz,ib] at h
 rcases h with(h | h) | h
 ·exact .inr ((ow p).subset h)
 ·exact .inl h
 ·exact .inr ((List.dropWhile_suffix p).subset h)
theorem zGR{s:Se}{path:B}(label:Int)(h:dH s)(hu:qHw s.conf)(hn:s.conf.queues.length≤100000000):qD2 s path label=true∧qFU s path label=(mV s path label,()):=zGr (by
 unfold qSW mV
 have hc:CfN 1000000000 s.conf:=⟨h.labels,h.queues,h.qu⟩
 refine aH (kU.2 hc) ?_
 simp only[aK]
 have hkl:=qHy s.conf path
 have hpl:∀k∈fG s.conf path,k.length≤1000000000:=by
  intro k hk
  obtain⟨_,_,q,hq,rfl⟩:=rU hk
  exact(h.qu q hq).2
 generalize fG s.conf path=ks at hkl hpl ⊢
 have hN:ks.length≤1000000000:=by omega
 refine nM ks [] (fun i (v:List B)=>(v,i,())) (fun out a=>qDR (fun b=>!kW s a b label) a out) (fun v=>(v,())) (fun i v=>v.length≤i∧∀b∈v,b.length≤1000000000) (fun i v hi hI=>⟨⟨by rw[qCy];omega,fun b hb=>?_⟩,?_⟩) (fun v hI=>aF ?_) (b0:=[]) ⟨df 0,fun b hb=>by cases hb⟩
 ·rcases qLa hb with e | e
  ·rw[e];exact hpl _ (bL hi)
  ·exact hI.2 b e
 ·obtain⟨hI,hI2⟩:=hI
  have ha:=hpl _ (bL (d:=[]) hi)
  refine bW (aY hi) (aN (qDR (fun b=>!kW s (ks.getD i []) b label) (ks.getD i []) v,()) ?_ (aF (by simp only[sS,aD hi hN])))
  refine aN ((((v.takeWhile fun b=>!kW s (ks.getD i []) b label).length:Nat):Int),()) (qKY v [] (fun k=>(k,())) (fun b=>!kW s (ks.getD i []) b label) (fun k=>Sum.inl ((k:Int),())) (fun k hk=>?_) ?_) ?_
  ·have hq:=zBX (a:=ks.getD i []) (b:=v.getD k []) label h hu ha (hI2 _ (bL hk))
   simp only[sS,qCr,aY hk,qCv hk,bB hi,hq.1,hq.2,aD hk (show v.length≤1000000000 by omega)]
   cases kW s (ks.getD i []) (v.getD k []) label<;>rfl
  ·simp only[sS,bE]
  ·have hkk:=qGg (l:=v) (fun b=>!kW s (ks.getD i []) b label)
   have hv1:v.length≤1000000000:=by omega
   have hv3:(v.take (v.takeWhile fun b=>!kW s (ks.getD i []) b label).length++[ks.getD i []]).length+v.length≤1000000000:=by rw[dh,ed,gz];omega
   refine aN (v.take (v.takeWhile fun b=>!kW s (ks.getD i []) b label).length,()) (aF (zNg hkk hv1 (by decide))) ?_
   refine aN (v.take (v.takeWhile fun b=>!kW s (ks.getD i []) b label).length++[ks.getD i []],()) (aH (bB hi) (aF ?_)) ?_
   ·simp only[di]
    exact zBY (by rw[ed];omega) (by decide)
   ·rw[←qIT]
    exact aF (zNh hkk hv3 (by decide))
 ·simp only[sS,bE])
end Go.Proofs.YtlmkakccmpncjaaGreatDoor
