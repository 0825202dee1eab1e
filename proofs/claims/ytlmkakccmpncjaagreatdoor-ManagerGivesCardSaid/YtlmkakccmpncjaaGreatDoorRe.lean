/- Part of the proof: texts Rm Rn Ro Rp. No conditions. -/
import Derived.Test.YtlmkakccmpncjaaGreatDoorRd
set_option linter.all false
noncomputable section
namespace Go.Proofs.YtlmkakccmpncjaaGreatDoor
open Go Go.W Go.Proofs
set_option maxRecDepth 100000
def qR6(s:Se)(a:Ap):Ap:={ a with state:=1,asks:=xQ a,grants:=[],kills:=[],told:=[],lost:=[],beat:=0,seen:=s.now }
def qMW(a:Ap)(id:Int):Ap:=bif !(fB a.grants id).2 then{ a with grants:=(fB a.grants id).1,kills:=a.kills++[id] } else{ a with grants:=(fB a.grants id).1 }
def dF(s:Se)(id:Int):Se :=
 bif !(aL s id).2 then s else
 bif (aL s id).1.master then(rD (dW s (qR6 s (aB s (aL s id).1.app).1)) (aL s id).1.app).1
 else dW (pK s (aL s id).1.id) (qMW (aB s (aL s id).1.app).1 (aL s id).1.id)
def dJ(s:Se)(ids:List Int):Se:=ids.foldl dF s
theorem qXX{n:Nat}{a:Ap}(s:Se)(h:ApN n a):ApN (n+1) (qR6 s a):=⟨Nat.le_add_left 1 n,cz _,cz _,cz _,cz _,p8 h.queue⟩
theorem zJt{n:Nat}{a:Ap}(id:Int)(h:ApN n a):ApN (n+1) (qMW a id):=by
 have hg:(fB a.grants id).1.length≤n+1:=bq (gp _ _) (p8 h.grants)
 have k:=h.le (jv n)
 have hk:=h.kills
 unfold qMW
 cases (fB a.grants id).2
 ·exact⟨k.asks,hg,by show(a.kills++[id]).length≤n+1;simp;exact hk,k.told,k.lost,k.queue⟩
 ·exact⟨k.asks,hg,k.kills,k.told,k.lost,k.queue⟩
theorem SeN.dF{n:Nat}{s:Se}(h:SeN n s)(id:Int):SeN (n+1) (dF s id):=by
 unfold Go.Proofs.YtlmkakccmpncjaaGreatDoor.dF
 cases (aL s id).2
 ·exact h.le (jv n)
 ·cases (aL s id).1.master
  ·exact(h.pK _).dW (zJt _ (h.aB _))
  ·exact(h.dW (qXX s (h.aB _))).rD _
theorem SeN.dJ{ids:List Int}:∀{n:Nat} {s:Se},SeN n s→SeN (n+ids.length) (dJ s ids):=by
 induction ids with
 | nil=>exact fun h=>h
 | cons a ids ih =>
  intro n s h
  have:= ih (h.dF a)
  rw[dw,show n+(ids.length+1)=n+1+ids.length by omega]
  exact this
theorem zES{s:Se}{ids:List Int}(h:SeN 400000000 s)(hl:ids.length≤400000000):(qKu s ids).G (dJ s ids,()):=by
 unfold qKu
 have hsub:∀{α:Type} (m:List α),aO 0 m.length m=m:=fun m=>by rw[lV,iq]
 refine mR ids 0 (fun i (v:Se)=>(i,(v,()),())) (fun v a=>.inl (dF v a)) (fun v=>(v,())) (fun i v=>SeN (400000000+i) v) (fun i v hi hI=>⟨SeN.dF hI _,?_⟩) (fun v hI=>?_) (b0:=s) h (bM (fin:=fun(v:Se)=>(v,())) _ _ _)
 ·have h1:=aD hi (by omega)
  have hi1:ixB (i:Int) (ids.length:Int)=true:=iT.2 ⟨by omega,by omega⟩
  have hi2:decide ((i:Int)<(ids.length:Int))=true:=by simp;omega
  have hI:SeN (400000000+i) v:=hI
  have h0:=aM.2 (hI.ok (by omega))
  generalize hid:ids.getD i 0=id
  have hc:=hI.aB (aL v id).1.app
  have h2:=aM.2 ((hI.dW (qXX v hc)).ok (by omega))
  have h3:=aM.2 ((hI.pK (aL v id).1.id).ok (by omega))
  simp only[qR6,xQ] at h2
  have hg:sm (aB v (aL v id).1.app).1.grants.length=true:=eH.2 (bq hc.grants (by omega))
  have hk:=hc.kills
  have hf1:aT (aB v (aL v id).1.app).1.kills.length 8=true:=fZ.2 ⟨by omega,by omega⟩
  have hf2:aT ((aB v (aL v id).1.app).1.kills.length+1) 8=true:=fZ.2 ⟨by omega,by omega⟩
  have hs:aO 0 ((aB v (aL v id).1.app).1.kills.length+1) ((aB v (aL v id).1.app).1.kills++[(aL v id).1.id])=(aB v (aL v id).1.app).1.kills++[(aL v id).1.id]:=by
   have:= hsub ((aB v (aL v id).1.app).1.kills++[(aL v id).1.id])
   rwa [dh,dw,gq,dm] at this
  cases hc1:(aL v id).2<;>cases hc2:(aL v id).1.master<;>cases hc3:(fB (aB v (aL v id).1.app).1.grants (aL v id).1.id).2<;>simp only[sS,aK,hid,hi1,hi2,h0,h1,h2,h3,hg,hf1,hf2,hs,hc1,hc2,hc3,dF,qR6,qMW,xQ]
 ·have hi2:decide ((ids.length:Int)<(ids.length:Int))=false:=by simp
  simp only[sS,hi2]
def qFB:TB:=con [.rcd 37,.dat 3] [.rcd 37] (fun a=>seN 400000000 a.1&&Nat.ble (List.length a.2.1) 400000000) (fun a=>(shut dJ a.1 a.2.1,())) rfl
theorem qKx:aJ 117 qFB :=
 row_of lI (L:=qR3) (J:=qR4) (by kernel_rfl) rfl rfl fun a h=>Eq.mpr (zEP a.1 a.2.1 _) (by simp only[aK];exact(have h:=o6.1 h;zES (uW.1 h.1) (qHb.1 h.2)))
theorem bL{α:Type}{l:List α}{i:Nat}{d:α}(hi:i<l.length):l.getD i d∈l:=by
 rw[List.getD,j3 hi,qj]
 exact nz hi
structure CfN(n:Nat)(c:Cf):Prop where
 labels:c.labels.length≤n
 queues:c.queues.length≤n
 qu:∀q∈c.queues,q.caps.length≤n∧q.path.length≤n
def cfN(n:Nat)(c:Cf):Bool:=Nat.ble c.labels.length n&&Nat.ble c.queues.length n&&c.queues.all (fun q=>Nat.ble q.caps.length n&&Nat.ble q.path.length n)
theorem kU{n:Nat}{c:Cf}:cfN n c=true↔CfN n c:=by
 simp only[cfN,bn,qHb,fw]
 exact⟨fun⟨⟨h1,h2⟩,h3⟩=>⟨h1,h2,h3⟩,fun⟨h1,h2,h3⟩=>⟨⟨h1,h2⟩,h3⟩⟩
theorem SeN.conf{n:Nat}{s:Se}(h:SeN n s):CfN n s.conf:=⟨h.labels,h.queues,h.qu⟩
def dM(c:Cf)(path:B):Qu×Bool:=findD dQu (fun q=>q.path==path) c.queues
def fG(c:Cf)(path:B):List B:=c.queues.filterMap fun a=>bif !(path==[])&&eO a.path==path then some a.path else none
def qHr(was now:Se):List Int:=was.conts.filterMap fun a=>bif !(aL now a.id).2 then some a.id else none
def qDk(s:Se)(ids:List Int):List Ct:=ids.filterMap fun a=>bif (aL s a).2 then some (aL s a).1 else none
theorem zJu{c:Cf}(path:B)(h:CfN 1000000000 c):(qPo c path).G ((dM c path).1,(dM c path).2,()):=by
 unfold qPo
 have hsub:∀{α:Type} (m:List α),aO 0 m.length m=m:=fun m=>by rw[lV,iq]
 refine mR c.queues dQu (fun i (_:Unit)=>(i,())) (fun _ a=>bif a.path==path then .inr (a,true,()) else .inl ()) (fun _=>(dQu,false,())) (fun _ _=>True) (fun i b hi _=>?_) (fun b _=>?_) (b0:=()) trivial (fD _ (fun a b=>(a,b,())) dQu _)
 ·have h1:=aD hi h.queues
  have hi1:ixB (i:Int) (c.queues.length:Int)=true:=iT.2 ⟨by omega,by omega⟩
  have hi2:decide ((i:Int)<(c.queues.length:Int))=true:=by simp;omega
  have hq:=(h.qu _ (bL (d:=dQu) hi)).1
  have hf1:aT (c.queues.getD i dQu).caps.length 16=true:=fZ.2 ⟨by omega,by omega⟩
  cases hc:(c.queues.getD i dQu).path==path<;>simp only[sS,hsub,hi1,hi2,hf1,h1,hc,true_and]
 ·have hi2:decide ((c.queues.length:Int)<(c.queues.length:Int))=false:=by simp
  simp only[sS,hi2]
theorem zJv{c:Cf}(path:B)(h:CfN 1000000000 c):(qPp c path).G (fG c path,()):=by
 unfold qPp
 refine mR c.queues dQu (fun i (v:List B)=>(v,i,())) (fun v a=>.inl (sW v (bif !(path==[])&&eO a.path==path then some a.path else none))) (fun v=>(v,())) (fun i b=>b.length≤i) (fun i b hi hI=>⟨?_,?_⟩) (fun b hI=>?_) (b0:=[]) (cz _) ?_
 ·have hI:b.length≤i:=hI
  generalize c.queues.getD i dQu=x
  simp only[sW]
  split<;>simp<;>omega
 ·have hI:b.length≤i:=hI
  have hn:c.queues.length≤1000000000:=h.queues
  have h1:=aD hi hn
  have hi1:ixB (i:Int) (c.queues.length:Int)=true:=iT.2 ⟨by omega,by omega⟩
  have hi2:decide ((i:Int)<(c.queues.length:Int))=true:=by simp;omega
  have hf1:aT (b.length+1) 16=true:=fZ.2 ⟨by omega,by omega⟩
  have hq:=eH.2 (h.qu _ (bL (d:=dQu) hi)).2
  cases hc0:path==[]<;>cases hc1:eO (c.queues.getD i dQu).path==path<;>simp only[sS,aK,hi1,hi2,hf1,h1,sW,hc0,hc1,hq]
 ·have hi2:decide ((c.queues.length:Int)<(c.queues.length:Int))=false:=by simp
  simp only[sS,hi2]
 ·rw[bM (fin:=fun(v:List B)=>(v,())),fold_filterMap];rfl
theorem zET{was now:Se}(h:dH was)(h':dH now):(qKt was now).G (qHr was now,()):=by
 unfold qKt
 refine mR was.conts dCt (fun i (v:List Int)=>(v,i,())) (fun v a=>.inl (sW v (bif !(aL now a.id).2 then some a.id else none))) (fun v=>(v,())) (fun i b=>b.length≤i) (fun i b hi hI=>⟨?_,?_⟩) (fun b hI=>?_) (b0:=[]) (cz _) ?_
 ·have hI:b.length≤i:=hI
  generalize was.conts.getD i dCt=x
  simp only[sW]
  split<;>simp<;>omega
 ·have hI:b.length≤i:=hI
  have hn:was.conts.length≤1000000000:=h.conts
  have h1:=aD hi hn
  have hi1:ixB (i:Int) (was.conts.length:Int)=true:=iT.2 ⟨by omega,by omega⟩
  have hi2:decide ((i:Int)<(was.conts.length:Int))=true:=by simp;omega
  have hf1:aT (b.length+1) 8=true:=fZ.2 ⟨by omega,by omega⟩
  have hq:=aM.2 h'
  cases hc0:(aL now (was.conts.getD i dCt).id).2<;>simp only[sS,aK,hi1,hi2,hf1,h1,sW,hc0,hq]
 ·have hi2:decide ((was.conts.length:Int)<(was.conts.length:Int))=false:=by simp
  simp only[sS,hi2]
 ·rw[bM (fin:=fun(v:List Int)=>(v,())),fold_filterMap];rfl
theorem zAL{s:Se}{ids:List Int}(h:dH s)(h':ids.length≤1000000000):(qHn s ids).G (qDk s ids,()):=by
 unfold qHn
 refine mR ids 0 (fun i (v:List Ct)=>(v,i,())) (fun v a=>.inl (sW v (bif (aL s a).2 then some (aL s a).1 else none))) (fun v=>(v,())) (fun i b=>b.length≤i) (fun i b hi hI=>⟨?_,?_⟩) (fun b hI=>?_) (b0:=[]) (cz _) ?_
 ·have hI:b.length≤i:=hI
  generalize ids.getD i 0=x
  simp only[sW]
  split<;>simp<;>omega
 ·have hI:b.length≤i:=hI
  have hn:ids.length≤1000000000:=h'
  have h1:=aD hi hn
  have hi1:ixB (i:Int) (ids.length:Int)=true:=iT.2 ⟨by omega,by omega⟩
  have hi2:decide ((i:Int)<(ids.length:Int))=true:=by simp;omega
  have hf1:aT (b.length+1) 72=true:=fZ.2 ⟨by omega,by omega⟩
  have hq:=aM.2 h
  cases hc0:(aL s (ids.getD i 0)).2<;>simp only[sS,aK,hi1,hi2,hf1,h1,sW,hc0,hq]
 ·have hi2:decide ((ids.length:Int)<(ids.length:Int))=false:=by simp
  simp only[sS,hi2]
 ·rw[bM (fin:=fun(v:List Ct)=>(v,())),fold_filterMap];rfl
def qII:TB:=con [.rcd 30,.str] [.rcd 79,.bool] (fun a=>cfN 1000000000 a.1) (fun a=>((shut dM a.1 a.2.1).1,(shut dM a.1 a.2.1).2,())) rfl
theorem qP0:aJ 205 qII :=
 row_of lI (L:=qXT) (J:=noL) (by kernel_rfl) rfl rfl fun a h=>Eq.mpr (zJg a.1 a.2.1 _) (by simp only[aK];exact zJu _ (kU.1 h))
def qIJ:TB:=con [.rcd 30,.str] [.dat 9] (fun a=>cfN 1000000000 a.1) (fun a=>(shut fG a.1 a.2.1,())) rfl
theorem qP1:aJ 51 qIJ :=
 row_of lI (L:=qXU) (J:=qXV) (by kernel_rfl) rfl rfl fun a h=>Eq.mpr (zJh a.1 a.2.1 _) (by simp only[aK];exact zJv _ (kU.1 h))
def qFC:TB:=con [.rcd 37,.rcd 37] [.dat 3] (fun a=>bN a.1&&bN a.2.1) (fun a=>(shut qHr a.1 a.2.1,())) rfl
theorem qKy:aJ 136 qFC :=
 row_of lI (L:=qR1) (J:=qR2) (by kernel_rfl) rfl rfl fun a h=>Eq.mpr (zEO a.1 a.2.1 _) (by simp only[aK];exact(have h:=o6.1 h;zET (aM.1 h.1) (aM.1 h.2)))
def qDl:TB:=con [.rcd 37,.dat 3] [.dat 46] (fun a=>bN a.1&&sm (List.length a.2.1)) (fun a=>(shut qDk a.1 a.2.1,())) rfl
theorem qHs:aJ 124 qDl :=
 row_of lI (L:=qMS) (J:=qMT) (by kernel_rfl) rfl rfl fun a h=>Eq.mpr (zAE a.1 a.2.1 _) (by simp only[aK];exact(have h:=o6.1 h;zAL (aM.1 h.1) (eH.1 h.2)))
def rE(s:Se)(id:Int):Se×Int :=
 bif ((s.plans.filter fun a=>a.id != id).length:Int)==(s.plans.length:Int) then(s,2) else({ s with plans:=s.plans.filter fun a=>a.id != id },0)
theorem zEU{s:Se}(id:Int)(h:dH s):(qKs s id).G ((rE s id).1,(rE s id).2,()):=by
 unfold qKs
 have hsub:∀{α:Type} (m:List α),aO 0 m.length m=m:=fun m=>by rw[lV,iq]
 refine aN (s.plans.filter (fun a=>a.id != id),()) (mR s.plans dPn (fun i (v:List Pn)=>(v,i,())) (fun v a=>.inl (bif a.id != id then v++[a] else v)) (fun v=>.inl (v,())) (fun i b=>b.length≤i) (fun i b hi hI=>⟨?_,?_⟩) (fun b hI=>?_) (b0:=[]) (cz _) ?_) ?_
 ·have hI:b.length≤i:=hI
  cases (s.plans.getD i dPn).id != id<;>simp<;>omega
 ·have hI:b.length≤i:=hI
  have hn:=h.plans
  have h1:=aD hi hn
  have hi1:ixB (i:Int) (s.plans.length:Int)=true:=iT.2 ⟨by omega,by omega⟩
  have hi2:decide ((i:Int)<(s.plans.length:Int))=true:=by simp;omega
  have hf1:aT (b.length+1) 48=true:=fZ.2 ⟨by omega,by omega⟩
  cases hc:(s.plans.getD i dPn).id != id<;>simp only[sS,hi1,hi2,hc,hf1,h1]
 ·have hi2:decide ((s.plans.length:Int)<(s.plans.length:Int))=false:=by simp
  simp only[sS,hi2]
 ·rw[bM (fun v a=>bif a.id != id then v++[a] else v) (fun(v:List Pn)=>Sum.inl (v,())),fold_filter];rfl
 ·unfold rE
  refine aF ?_
  cases hc:((s.plans.filter fun a=>a.id != id).length:Int)==(s.plans.length:Int)<;>simp only[sS,hc,hsub]
def iL(s:Se)(n:Nd):Se×Int :=
 bif decide (n.id<0)||decide (n.id>999)||decide (n.label<0)||decide (n.label≥(s.conf.labels.length:Int))||decide (n.rack<0)||decide (n.rack>99)||!(decide (n.cap.mem≥0)&&decide (n.cap.mem≤1073741824)&&decide (n.cap.cores≥0)&&decide (n.cap.cores≤1073741824)) then(s,1)
 else bif (aU s n.id).2&&(aU s n.id).1.up then(s,7)
 else bif !(aU s n.id).2&&decide ((s.nodes.length:Int)≥12) then(s,4)
 else(qAN s ⟨n.id,n.label,n.rack,n.cap,s.now,0,true⟩,0)
theorem qR7{s:Se}(n:Nd)(h:dH s):(qBU s n).G ((iL s n).1,(iL s n).2,()):=by
 unfold qBU iL
 refine aF ?_
 simp only[aK,aM.2 h,dD,eG,cB,jM,cond_true]
 cases decide (n.id<0) with
 | true=>rfl
 | false=>cases decide (n.id>999) with
  | true=>rfl
  | false=>cases decide (n.label<0) with
   | true=>rfl
   | false=>cases decide (n.label≥(s.conf.labels.length:Int)) with
    | true=>rfl
    | false=>cases decide (n.rack<0) with
     | true=>rfl
     | false=>cases decide (n.rack>99) with
      | true=>rfl
      | false=>cases decide (n.cap.mem≥0)<;>cases decide (n.cap.mem≤1073741824)<;>cases decide (n.cap.cores≥0)<;>cases decide (n.cap.cores≤1073741824)<;>cases (aU s n.id).2<;>cases (aU s n.id).1.up<;>cases decide ((s.nodes.length:Int)≥12)<;>rfl
def qAR(x:Ak)(labels:Int):Int :=
 bif decide (x.prio<0)||decide (x.prio>9)||decide (x.label<0)||decide (x.label≥labels)||!(decide (x.size.mem≥1)&&decide (x.size.mem≤1073741824)&&decide (x.size.cores≥1)&&decide (x.size.cores≤1073741824))||decide (x.node < -1)||decide (x.node>999)||decide (x.rack < -1)||decide (x.rack>99)||decide (x.node≥0)&&decide (x.rack<0) then 1
 else bif decide (x.count<0)||decide (x.count>50) then 4 else 0
theorem zEV(x:Ak)(labels:Int):(qKr x labels).G (qAR x labels,()):=by
 unfold qKr qAR
 refine aF ?_
 cases decide (x.prio<0) with
 | true=>rfl
 | false=>cases decide (x.prio>9) with
  | true=>rfl
  | false=>cases decide (x.label<0) with
   | true=>rfl
   | false=>cases decide (x.label≥labels) with
    | true=>rfl
    | false=>cases decide (x.size.mem≥1)<;>cases decide (x.size.mem≤1073741824)<;>cases decide (x.size.cores≥1)<;>cases decide (x.size.cores≤1073741824)<;>(try rfl)<;>cases decide (x.node < -1)<;>(try rfl)<;>cases decide (x.node>999)<;>(try rfl)<;>cases decide (x.rack < -1)<;>(try rfl)<;>cases decide (x.rack>99)<;>(try rfl)<;>cases decide (x.node≥0)<;>cases decide (x.rack<0)<;>cases decide (x.count<0)<;>cases decide (x.count>50)<;>rfl
def qFD:TB:=con [.rcd 37,.int .i64] [.rcd 37,.int .i64] (fun a=>bN a.1) (fun a=>((shut rE a.1 a.2.1).1,(shut rE a.1 a.2.1).2,())) rfl
theorem qKz:aJ 47 qFD :=
 row_of lI (L:=qRz) (J:=qR0) (by kernel_rfl) rfl rfl fun a h=>Eq.mpr (zEN a.1 a.2.1 _) (by simp only[aK];exact zEU _ (aM.1 h))
def xS:TB:=con [.rcd 37,.rcd 53] [.rcd 37,.int .i64] (fun a=>bN a.1) (fun a=>((shut iL a.1 a.2.1).1,(shut iL a.1 a.2.1).2,())) rfl
theorem qBW:aJ 40 xS :=
 row_of lI (L:=noL) (J:=noL) (by kernel_rfl) rfl rfl fun a h=>Eq.mpr (qRy a.1 a.2.1 _) (by simp only[aK];exact qR7 _ (aM.1 h))
def qFE:TB:=con [.rcd 131,.int .i64] [.int .i64] (fun a=>true) (fun a=>(shut qAR a.1 a.2.1,())) rfl
theorem qK0:aJ 208 qFE :=
 row_of lI (L:=noL) (J:=noL) (by kernel_rfl) rfl rfl fun a h=>Eq.mpr (zEM a.1 a.2.1 _) (by simp only[aK];exact zEV _ _)
def K3:Con aC.T:=fun f=>bV [(113,qDc),(375,qDd),(130,vL),(311,qHe),(387,qY),(138,zS),(378,qDf),(120,zT),(10,wH),(127,zU),(133,qZ),(114,qHi),(122,qDg),(383,zV),(131,rC),(264,zW),(382,vN),(115,qHj),(125,oM),(134,zX),(325,qHk),(128,oN),(277,qHl),(139,wI),(209,qKq),(379,qF8),(121,wJ),(206,qBT),(123,qDi),(119,qFA),(371,qDj),(312,qID),(116,qIE),(132,qIF),(315,qIG),(129,qIH),(117,qFB),(205,qII),(51,qIJ),(136,qFC),(124,qDl),(47,qFD),(40,xS),(208,qFE)] f
theorem zOR:iH Tryz.prog K3:=aA qI8 (aA qI9 (aA qDe (aA qPg (aA qAK (aA qF1 (aA qIA (aA qF2 (aA qBN (aA qF3 (aA qAL (aA qPj (aA qIB (aA qF4 (aA qAP (aA qF5 (aA qDh (aA qPk (aA xO (aA qF6 (aA qPl (aA xP (aA qPm (aA qBS (aA qPn (aA qIC (aA qAQ (aA qF9 (aA qHp (aA qKw (aA qHq (aA qPv (aA qPw (aA qPx (aA qPy (aA qPz (aA qKx (aA qP0 (aA qP1 (aA qKy (aA qHs (aA qKz (aA qBW (aA qK0 (eX))))))))))))))))))))))))))))))))))))))))))))
def hd3:Hd aC.T:=hdT aC Tryz.prog (fzC aC K3) (fun _=>false) 1000 5
theorem zEW:bI Tryz.prog hd3:=bU mixed hno (qOW zOR) _ _ _
end Go.Proofs.YtlmkakccmpncjaaGreatDoor
namespace Go.Proofs.YtlmkakccmpncjaaGreatDoor
open Go Go.W Go.Proofs
open Go.W.DT (ret need br bad loop join)
set_option maxRecDepth 100000
def qP2(c:Cf)(path:B):DT (Bool×Unit) :=
 let +zeta a:=cfN 1000000000 c;need a (br (shut dM c path).2 (need a (ret ((↑(shut fG c path).length:Int)==0,()))) (ret (false,())))

theorem zJw(c:Cf)(path:B)(r:(Bool×Unit)):(tree hd3 noL noL 111 [.rcd 30,.str] [.bool] (c,path,())).G r=(qP2 c path).G r:=by kernel_rfl
def qK1:=ljT [(8,fun st=>[si 8,si 9])]
def qK2:=ljT [(9,fun st=>[si 8]),(12,fun st=>[si 8]),(18,fun st=>bK st 2 [.rcd 37])]
def qE2(s:Se)(a:Ap):DT (Se×Int×Unit) :=
 let +zeta f:=cfN 1000000000 s.conf;let +zeta d:=(↑s.apps.length:Int);let +zeta c:=0;let +zeta b:=1;br (decide (a.id<c)) (ret (s,b,())) (br (decide (a.id>9999)) (ret (s,b,())) (br (decide (a.user<c)) (ret (s,b,())) (br (decide (a.user>99)) (ret (s,b,())) (br (decide (a.prio<c)) (ret (s,b,())) (br (decide (a.prio>9)) (ret (s,b,())) (br (!shut wK a.master.mem) (ret (s,b,())) (br (!shut wK a.master.cores) (ret (s,b,())) (need (bN s) (br (shut aB s a.id).2 (ret (s,7,())) ((loop (c,c,()) fun(p:Int×Int×Unit) =>let +zeta e:=s.apps.getD (Int.toNat p.2.1) dAp;br (decide (p.2.1<d)) ((need (ixB p.2.1 d) (br (e.state==b) (ret (Sum.inl (w64 (p.1+b),()))) (br (e.state==2) (ret (Sum.inl (w64 (p.1+b),()))) (ret (Sum.inl (p.1,())))))).join fun(s:Int×Unit)=>ret (Sum.inl (s.1,w64 (p.2.1+b),()))) (ret (Sum.inr (Sum.inl (p.1,()))))).join fun(p:Int×Unit)=>br (decide (p.1≥16)) (ret (s,4,())) (need f (br (shut dM s.conf a.queue).2 (need f (br (!(↑(shut fG s.conf a.queue).length:Int)==c) (ret (s,19,())) ((br (decide (d≥16)) (need (bN s) (ret (Sum.inl ((shut jN s,()),())))) (ret (Sum.inl ((s,()),())))).join fun(s:(Se×Unit)×Unit)=>need (bN s.1.1) (ret (shut dW s.1.1 {a with state:=b,asks:=shut xQ a,seen:=s.1.1.now,beat:=c,grants:=[],kills:=[],told:=[],lost:=[]},c,()))))) (ret (s,19,()))))))))))))))

theorem qVm(s:Se)(a:Ap)(r:(Se×Int×Unit)):(tree hd3 qK1 qK2 42 [.rcd 37,.rcd 43] [.rcd 37,.int .i64] (s,a,())).G r=(qE2 s a).G r:=by kernel_rfl
end Go.Proofs.YtlmkakccmpncjaaGreatDoor
