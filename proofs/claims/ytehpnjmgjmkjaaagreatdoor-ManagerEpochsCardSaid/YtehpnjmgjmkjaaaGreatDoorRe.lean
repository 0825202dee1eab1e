/- Part of the proof. No conditions. -/
import Derived.Test.YtehpnjmgjmkjaaaGreatDoorRd
noncomputable section
namespace Go.Proofs.YtehpnjmgjmkjaaaGreatDoor
open Go Go.W Go.Proofs
set_option maxRecDepth 100000
def qXE(s:Se)(a:Ap):Ap:={ a with state:=1,asks:=wT a,grants:=[],kills:=[],told:=[],lost:=[],beat:=0,seen:=s.now }
def qXF(a:Ap)(id:Int):Ap:=bif !(fA a.grants id).2 then{ a with grants:=(fA a.grants id).1,kills:=a.kills++[id] } else{ a with grants:=(fA a.grants id).1 }
def dR(s:Se)(id:Int):Se :=
 bif !(aD s id).2 then s else
 bif (aD s id).1.master then(nE (dQ s (qXE s (aB s (aD s id).1.app).1)) (aD s id).1.app).1
 else dQ (nD s (aD s id).1.id) (qXF (aB s (aD s id).1.app).1 (aD s id).1.id)
def dC(s:Se)(ids:List Int):Se:=ids.foldl dR s
theorem qXG{n:Nat}{a:Ap}(s:Se)(h:ApN n a):ApN (n+1) (qXE s a):=⟨Nat.le_add_left 1 n,Nat.zero_le _,Nat.zero_le _,Nat.zero_le _,Nat.zero_le _,Nat.le_succ_of_le h.queue⟩
theorem zGV{n:Nat}{a:Ap}(id:Int)(h:ApN n a):ApN (n+1) (qXF a id):=by
 have hg:(fA a.grants id).1.length≤n+1:=Nat.le_trans (List.length_filter_le _ _) (Nat.le_succ_of_le h.grants)
 have k:=h.le (Nat.le_succ n)
 have hk:=h.kills
 unfold qXF
 cases (fA a.grants id).2
 ·exact⟨k.asks,hg,by show(a.kills++[id]).length≤n+1;simp;exact hk,k.told,k.lost,k.queue⟩
 ·exact⟨k.asks,hg,k.kills,k.told,k.lost,k.queue⟩
theorem SeN.dR{n:Nat}{s:Se}(h:SeN n s)(id:Int):SeN (n+1) (dR s id):=by
 unfold Go.Proofs.YtehpnjmgjmkjaaaGreatDoor.dR
 cases (aD s id).2
 ·exact h.le (Nat.le_succ n)
 ·cases (aD s id).1.master
  ·exact(h.nD _).dQ (zGV _ (h.aB _))
  ·exact(h.dQ (qXG s (h.aB _))).nE _
theorem SeN.dC{ids:List Int}:∀{n:Nat} {s:Se},SeN n s→SeN (n+ids.length) (dC s ids):=by
 induction ids with
 | nil=>exact fun h=>h
 | cons a ids ih =>
  intro n s h
  have:= ih (h.dR a)
  rw[List.length_cons,show n+(ids.length+1)=n+1+ids.length by omega]
  exact this
theorem zD1{s:Se}{ids:List Int}(h:SeN 400000000 s)(hl:ids.length≤400000000):(qKe s ids).G (dC s ids,()):=by
 unfold qKe
 have hsub:∀{α:Type} (m:List α),aH 0 m.length m=m:=fun m=>by rw[mO,List.take_length]
 refine lN ids 0 (fun i (v:Se)=>(i,(v,()),())) (fun v a=>.inl (dR v a)) (fun v=>(v,())) (fun i v=>SeN (400000000+i) v) (fun i v hi hI=>⟨SeN.dR hI _,?_⟩) (fun v hI=>?_) (b0:=s) h (bX (fin:=fun(v:Se)=>(v,())) _ _ _)
 ·have h1:=aG hi (by omega)
  have hi1:ixB (i:Int) (ids.length:Int)=true:=gZ.2 ⟨by omega,by omega⟩
  have hi2:decide ((i:Int)<(ids.length:Int))=true:=by simp;omega
  have hI:SeN (400000000+i) v:=hI
  have h0:=aO.2 (hI.ok (by omega))
  generalize hid:ids.getD i 0=id
  have hc:=hI.aB (aD v id).1.app
  have h2:=aO.2 ((hI.dQ (qXG v hc)).ok (by omega))
  have h3:=aO.2 ((hI.nD (aD v id).1.id).ok (by omega))
  simp only[qXE,wT] at h2
  have hg:sm (aB v (aD v id).1.app).1.grants.length=true:=eX.2 (Nat.le_trans hc.grants (by omega))
  have hk:=hc.kills
  have hf1:aX (aB v (aD v id).1.app).1.kills.length 8=true:=gI.2 ⟨by omega,by omega⟩
  have hf2:aX ((aB v (aD v id).1.app).1.kills.length+1) 8=true:=gI.2 ⟨by omega,by omega⟩
  have hs:aH 0 ((aB v (aD v id).1.app).1.kills.length+1) ((aB v (aD v id).1.app).1.kills++[(aD v id).1.id])=(aB v (aD v id).1.app).1.kills++[(aD v id).1.id]:=by
   have:= hsub ((aB v (aD v id).1.app).1.kills++[(aD v id).1.id])
   rwa [List.length_append,List.length_cons,List.length_nil,Nat.zero_add] at this
  cases hc1:(aD v id).2<;>cases hc2:(aD v id).1.master<;>cases hc3:(fA (aB v (aD v id).1.app).1.grants (aD v id).1.id).2<;>simp only[sS,aN,hid,hi1,hi2,h0,h1,h2,h3,hg,hf1,hf2,hs,hc1,hc2,hc3,dR,qXE,qXF,wT]
 ·have hi2:decide ((ids.length:Int)<(ids.length:Int))=false:=by simp
  simp only[sS,hi2]
def qFo:TB:=con [.rcd 39,.dat 3] [.rcd 39] (fun a=>seN 400000000 a.1&&Nat.ble (List.length a.2.1) 400000000) (fun a=>(shut dC a.1 a.2.1,())) rfl
theorem qKi:aM 137 qFo :=
 row_of lS (L:=qSo) (J:=qSp) (by kernel_rfl) rfl rfl fun a h=>Eq.mpr (zDy a.1 a.2.1 _) (by simp only[aN];exact(have h:=Bool.and_eq_true_iff.1 h;zD1 (uD.1 h.1) (qGw.1 h.2)))
theorem bT{α:Type}{l:List α}{i:Nat}{d:α}(hi:i<l.length):l.getD i d∈l:=by
 rw[List.getD,List.getElem?_eq_getElem hi,Option.getD_some]
 exact List.getElem_mem hi
structure CfN(n:Nat)(c:Cf):Prop where
 labels:c.labels.length≤n
 queues:c.queues.length≤n
 qu:∀q∈c.queues,q.caps.length≤n∧q.path.length≤n
def cfN(n:Nat)(c:Cf):Bool:=Nat.ble c.labels.length n&&Nat.ble c.queues.length n&&c.queues.all (fun q=>Nat.ble q.caps.length n&&Nat.ble q.path.length n)
theorem kW{n:Nat}{c:Cf}:cfN n c=true↔CfN n c:=by
 simp only[cfN,Bool.and_eq_true,qGw,List.all_eq_true]
 exact⟨fun⟨⟨h1,h2⟩,h3⟩=>⟨h1,h2,h3⟩,fun⟨h1,h2,h3⟩=>⟨⟨h1,h2⟩,h3⟩⟩
theorem SeN.conf{n:Nat}{s:Se}(h:SeN n s):CfN n s.conf:=⟨h.labels,h.queues,h.qu⟩
def dO(c:Cf)(path:B):Qu×Bool:=findD dQu (fun q=>q.path==path) c.queues
def bO(c:Cf)(path:B):List B:=c.queues.filterMap fun a=>bif !(path==[])&&eZ a.path==path then some a.path else none
def qGB(was now:Se):List Int:=was.conts.filterMap fun a=>bif !(aD now a.id).2 then some a.id else none
def qCV(s:Se)(ids:List Int):List Ct:=ids.filterMap fun a=>bif (aD s a).2 then some (aD s a).1 else none
theorem zGW{c:Cf}(path:B)(h:CfN 1000000000 c):(qPI c path).G ((dO c path).1,(dO c path).2,()):=by
 unfold qPI
 have hsub:∀{α:Type} (m:List α),aH 0 m.length m=m:=fun m=>by rw[mO,List.take_length]
 refine lN c.queues dQu (fun i (_:Unit)=>(i,())) (fun _ a=>bif a.path==path then .inr (a,true,()) else .inl ()) (fun _=>(dQu,false,())) (fun _ _=>True) (fun i b hi _=>?_) (fun b _=>?_) (b0:=()) trivial (fD _ (fun a b=>(a,b,())) dQu _)
 ·have h1:=aG hi h.queues
  have hi1:ixB (i:Int) (c.queues.length:Int)=true:=gZ.2 ⟨by omega,by omega⟩
  have hi2:decide ((i:Int)<(c.queues.length:Int))=true:=by simp;omega
  have hq:=(h.qu _ (bT (d:=dQu) hi)).1
  have hf1:aX (c.queues.getD i dQu).caps.length 16=true:=gI.2 ⟨by omega,by omega⟩
  cases hc:(c.queues.getD i dQu).path==path<;>simp only[sS,hsub,hi1,hi2,hf1,h1,hc,true_and]
 ·have hi2:decide ((c.queues.length:Int)<(c.queues.length:Int))=false:=by simp
  simp only[sS,hi2]
theorem zGX{c:Cf}(path:B)(h:CfN 1000000000 c):(qPJ c path).G (bO c path,()):=by
 unfold qPJ
 refine lN c.queues dQu (fun i (v:List B)=>(v,i,())) (fun v a=>.inl (sF v (bif !(path==[])&&eZ a.path==path then some a.path else none))) (fun v=>(v,())) (fun i b=>b.length≤i) (fun i b hi hI=>⟨?_,?_⟩) (fun b hI=>?_) (b0:=[]) (Nat.zero_le _) ?_
 ·have hI:b.length≤i:=hI
  generalize c.queues.getD i dQu=x
  simp only[sF]
  split<;>simp<;>omega
 ·have hI:b.length≤i:=hI
  have hn:c.queues.length≤1000000000:=h.queues
  have h1:=aG hi hn
  have hi1:ixB (i:Int) (c.queues.length:Int)=true:=gZ.2 ⟨by omega,by omega⟩
  have hi2:decide ((i:Int)<(c.queues.length:Int))=true:=by simp;omega
  have hf1:aX (b.length+1) 16=true:=gI.2 ⟨by omega,by omega⟩
  have hq:=eX.2 (h.qu _ (bT (d:=dQu) hi)).2
  cases hc0:path==[]<;>cases hc1:eZ (c.queues.getD i dQu).path==path<;>simp only[sS,aN,hi1,hi2,hf1,h1,sF,hc1,hq]
 ·have hi2:decide ((c.queues.length:Int)<(c.queues.length:Int))=false:=by simp
  simp only[sS,hi2]
 ·rw[bX (fin:=fun(v:List B)=>(v,())),fold_filterMap];rfl
theorem zD2{was now:Se}(h:dV was)(h':dV now):(qKd was now).G (qGB was now,()):=by
 unfold qKd
 refine lN was.conts dCt (fun i (v:List Int)=>(v,i,())) (fun v a=>.inl (sF v (bif !(aD now a.id).2 then some a.id else none))) (fun v=>(v,())) (fun i b=>b.length≤i) (fun i b hi hI=>⟨?_,?_⟩) (fun b hI=>?_) (b0:=[]) (Nat.zero_le _) ?_
 ·have hI:b.length≤i:=hI
  generalize was.conts.getD i dCt=x
  simp only[sF]
  split<;>simp<;>omega
 ·have hI:b.length≤i:=hI
  have hn:was.conts.length≤1000000000:=h.conts
  have h1:=aG hi hn
  have hi1:ixB (i:Int) (was.conts.length:Int)=true:=gZ.2 ⟨by omega,by omega⟩
  have hi2:decide ((i:Int)<(was.conts.length:Int))=true:=by simp;omega
  have hf1:aX (b.length+1) 8=true:=gI.2 ⟨by omega,by omega⟩
  have hq:=aO.2 h'
  cases hc0:(aD now (was.conts.getD i dCt).id).2<;>simp only[sS,aN,hi1,hi2,hf1,h1,sF,hc0,hq]
 ·have hi2:decide ((was.conts.length:Int)<(was.conts.length:Int))=false:=by simp
  simp only[sS,hi2]
 ·rw[bX (fin:=fun(v:List Int)=>(v,())),fold_filterMap];rfl
theorem zAf{s:Se}{ids:List Int}(h:dV s)(h':ids.length≤1000000000):(qG7 s ids).G (qCV s ids,()):=by
 unfold qG7
 refine lN ids 0 (fun i (v:List Ct)=>(v,i,())) (fun v a=>.inl (sF v (bif (aD s a).2 then some (aD s a).1 else none))) (fun v=>(v,())) (fun i b=>b.length≤i) (fun i b hi hI=>⟨?_,?_⟩) (fun b hI=>?_) (b0:=[]) (Nat.zero_le _) ?_
 ·have hI:b.length≤i:=hI
  generalize ids.getD i 0=x
  simp only[sF]
  split<;>simp<;>omega
 ·have hI:b.length≤i:=hI
  have hn:ids.length≤1000000000:=h'
  have h1:=aG hi hn
  have hi1:ixB (i:Int) (ids.length:Int)=true:=gZ.2 ⟨by omega,by omega⟩
  have hi2:decide ((i:Int)<(ids.length:Int))=true:=by simp;omega
  have hf1:aX (b.length+1) 72=true:=gI.2 ⟨by omega,by omega⟩
  have hq:=aO.2 h
  cases hc0:(aD s (ids.getD i 0)).2<;>simp only[sS,aN,hi1,hi2,hf1,h1,sF,hc0,hq]
 ·have hi2:decide ((ids.length:Int)<(ids.length:Int))=false:=by simp
  simp only[sS,hi2]
 ·rw[bX (fin:=fun(v:List Ct)=>(v,())),fold_filterMap];rfl
def qI6:TB:=con [.rcd 32,.str] [.rcd 114,.bool] (fun a=>cfN 1000000000 a.1) (fun a=>((shut dO a.1 a.2.1).1,(shut dO a.1 a.2.1).2,())) rfl
theorem qPU:aM 110 qI6 :=
 row_of lS (L:=qXA) (J:=noL) (by kernel_rfl) rfl rfl fun a h=>Eq.mpr (zGI a.1 a.2.1 _) (by simp only[aN];exact zGW _ (kW.1 h))
def qI7:TB:=con [.rcd 32,.str] [.dat 9] (fun a=>cfN 1000000000 a.1) (fun a=>(shut bO a.1 a.2.1,())) rfl
theorem qPV:aM 68 qI7 :=
 row_of lS (L:=qXB) (J:=qXC) (by kernel_rfl) rfl rfl fun a h=>Eq.mpr (zGJ a.1 a.2.1 _) (by simp only[aN];exact zGX _ (kW.1 h))
def qFp:TB:=con [.rcd 39,.rcd 39] [.dat 3] (fun a=>bC a.1&&bC a.2.1) (fun a=>(shut qGB a.1 a.2.1,())) rfl
theorem qKj:aM 155 qFp :=
 row_of lS (L:=qSm) (J:=qSn) (by kernel_rfl) rfl rfl fun a h=>Eq.mpr (zDx a.1 a.2.1 _) (by simp only[aN];exact(have h:=Bool.and_eq_true_iff.1 h;zD2 (aO.1 h.1) (aO.1 h.2)))
def qCW:TB:=con [.rcd 39,.dat 3] [.dat 50] (fun a=>bC a.1&&sm (List.length a.2.1)) (fun a=>(shut qCV a.1 a.2.1,())) rfl
theorem qGC:aM 143 qCW :=
 row_of lS (L:=qNh) (J:=qNi) (by kernel_rfl) rfl rfl fun a h=>Eq.mpr (qZY a.1 a.2.1 _) (by simp only[aN];exact(have h:=Bool.and_eq_true_iff.1 h;zAf (aO.1 h.1) (eX.1 h.2)))
def vU(s:Se)(id:Int):Se×Int :=
 bif ((s.plans.filter fun a=>a.id != id).length:Int)==(s.plans.length:Int) then(s,2) else({ s with plans:=s.plans.filter fun a=>a.id != id },0)
theorem zD3{s:Se}(id:Int)(h:dV s):(qKc s id).G ((vU s id).1,(vU s id).2,()):=by
 unfold qKc
 have hsub:∀{α:Type} (m:List α),aH 0 m.length m=m:=fun m=>by rw[mO,List.take_length]
 refine aT (s.plans.filter (fun a=>a.id != id),()) (lN s.plans dPn (fun i (v:List Pn)=>(v,i,())) (fun v a=>.inl (bif a.id != id then v++[a] else v)) (fun v=>.inl (v,())) (fun i b=>b.length≤i) (fun i b hi hI=>⟨?_,?_⟩) (fun b hI=>?_) (b0:=[]) (Nat.zero_le _) ?_) ?_
 ·have hI:b.length≤i:=hI
  cases (s.plans.getD i dPn).id != id<;>simp<;>omega
 ·have hI:b.length≤i:=hI
  have hn:=h.plans
  have h1:=aG hi hn
  have hi1:ixB (i:Int) (s.plans.length:Int)=true:=gZ.2 ⟨by omega,by omega⟩
  have hi2:decide ((i:Int)<(s.plans.length:Int))=true:=by simp;omega
  have hf1:aX (b.length+1) 48=true:=gI.2 ⟨by omega,by omega⟩
  cases hc:(s.plans.getD i dPn).id != id<;>simp only[sS,hi1,hi2,hc,hf1,h1]
 ·have hi2:decide ((s.plans.length:Int)<(s.plans.length:Int))=false:=by simp
  simp only[sS,hi2]
 ·rw[bX (fun v a=>bif a.id != id then v++[a] else v) (fun(v:List Pn)=>Sum.inl (v,())),fold_filter];rfl
 ·unfold vU
  refine aF ?_
  cases hc:((s.plans.filter fun a=>a.id != id).length:Int)==(s.plans.length:Int)<;>simp only[sS,hsub]
def jK(s:Se)(n:Nd):Se×Int :=
 bif decide (n.id<0)||decide (n.id>999)||decide (n.label<0)||decide (n.label≥(s.conf.labels.length:Int))||decide (n.rack<0)||decide (n.rack>99)||!(decide (n.cap.mem≥0)&&decide (n.cap.mem≤1073741824)&&decide (n.cap.cores≥0)&&decide (n.cap.cores≤1073741824)) then(s,1)
 else bif (aQ s n.id).2&&(aQ s n.id).1.up then(s,7)
 else bif !(aQ s n.id).2&&decide ((s.nodes.length:Int)≥12) then(s,4)
 else(wJ s ⟨n.id,n.label,n.rack,n.cap,s.now,0,true⟩,0)
theorem qSr{s:Se}(n:Nd)(h:dV s):(qBF s n).G ((jK s n).1,(jK s n).2,()):=by
 unfold qBF jK
 refine aF ?_
 simp only[aN,aO.2 h,dN,fC,dE,cond_true]
 cases decide (n.id<0) with
 | true=>rfl
 | false=>cases decide (n.id>999) with
  | true=>rfl
  | false=>cases decide (n.label<0) with
   | true=>rfl
   | false=>cases decide (n.label≥(s.conf.labels.length:Int)) with
    | true=>rfl
    | false=>cases decide (n.rack<0) with
     | true=>rfl
     | false=>cases decide (n.rack>99) with
      | true=>rfl
      | false=>cases decide (n.cap.mem≥0)<;>cases decide (n.cap.mem≤1073741824)<;>cases decide (n.cap.cores≥0)<;>cases decide (n.cap.cores≤1073741824)<;>cases (aQ s n.id).2<;>cases (aQ s n.id).1.up<;>cases decide ((s.nodes.length:Int)≥12)<;>rfl
def qAB(x:Ak)(labels:Int):Int :=
 bif decide (x.prio<0)||decide (x.prio>9)||decide (x.label<0)||decide (x.label≥labels)||!(decide (x.size.mem≥1)&&decide (x.size.mem≤1073741824)&&decide (x.size.cores≥1)&&decide (x.size.cores≤1073741824))||decide (x.node < -1)||decide (x.node>999)||decide (x.rack < -1)||decide (x.rack>99)||decide (x.node≥0)&&decide (x.rack<0) then 1
 else bif decide (x.count<0)||decide (x.count>50) then 4 else 0
theorem zD4(x:Ak)(labels:Int):(qKb x labels).G (qAB x labels,()):=by
 unfold qKb qAB
 refine aF ?_
 cases decide (x.prio<0) with
 | true=>rfl
 | false=>cases decide (x.prio>9) with
  | true=>rfl
  | false=>cases decide (x.label<0) with
   | true=>rfl
   | false=>cases decide (x.label≥labels) with
    | true=>rfl
    | false=>cases decide (x.size.mem≥1)<;>cases decide (x.size.mem≤1073741824)<;>cases decide (x.size.cores≥1)<;>cases decide (x.size.cores≤1073741824)<;>(try rfl)<;>cases decide (x.node < -1)<;>(try rfl)<;>cases decide (x.node>999)<;>(try rfl)<;>cases decide (x.rack < -1)<;>(try rfl)<;>cases decide (x.rack>99)<;>(try rfl)<;>cases decide (x.node≥0)<;>cases decide (x.rack<0)<;>cases decide (x.count<0)<;>cases decide (x.count>50)<;>rfl
def qFq:TB:=con [.rcd 39,.int .i64] [.rcd 39,.int .i64] (fun a=>bC a.1) (fun a=>((shut vU a.1 a.2.1).1,(shut vU a.1 a.2.1).2,())) rfl
theorem qKk:aM 64 qFq :=
 row_of lS (L:=qSk) (J:=qSl) (by kernel_rfl) rfl rfl fun a h=>Eq.mpr (zDw a.1 a.2.1 _) (by simp only[aN];exact zD3 _ (aO.1 h))
def wV:TB:=con [.rcd 39,.rcd 57] [.rcd 39,.int .i64] (fun a=>bC a.1) (fun a=>((shut jK a.1 a.2.1).1,(shut jK a.1 a.2.1).2,())) rfl
theorem qBG:aM 57 wV :=
 row_of lS (L:=noL) (J:=noL) (by kernel_rfl) rfl rfl fun a h=>Eq.mpr (qSj a.1 a.2.1 _) (by simp only[aN];exact qSr _ (aO.1 h))
def qFr:TB:=con [.rcd 95,.int .i64] [.int .i64] (fun _a=>true) (fun a=>(shut qAB a.1 a.2.1,())) rfl
theorem qKl:aM 226 qFr :=
 row_of lS (L:=noL) (J:=noL) (by kernel_rfl) rfl rfl fun a h=>Eq.mpr (zDv a.1 a.2.1 _) (by simp only[aN];exact zD4 _ _)
def K3:Con aC.T:=fun f=>dH [(48,qCM),(109,qCN),(149,uR),(326,qGz),(401,qQ),(157,zB),(392,qCP),(47,zC),(17,zD),(146,zF),(152,qR),(134,qG2),(141,qCR),(397,zH),(150,qU),(279,zI),(396,uT),(135,qG3),(144,oQ),(153,zJ),(50,oU),(340,qG4),(147,oV),(292,qG5),(158,vQ),(111,qBD),(227,qKa),(393,qFl),(140,vR),(224,qBE),(142,qCT),(139,qFn),(386,qCU),(327,qI1),(136,qI2),(151,qI3),(330,qI4),(148,qI5),(137,qFo),(110,qI6),(68,qI7),(155,qFp),(143,qCW),(64,qFq),(57,wV),(226,qFr)] f
theorem zL9:iL Tryz.prog K3:=aA qIw (aA qIx (aA qCO (aA qP9 (aA qA4 (aA qFd (aA qIy (aA qFe (aA qFf (aA qFg (aA qA5 (aA qPD (aA qIz (aA qFh (aA qA8 (aA qFi (aA qCS (aA qPE (aA wQ (aA qFj (aA wR (aA qPF (aA wS (aA qPG (aA qBC (aA qFk (aA qPH (aA qI0 (aA qA9 (aA qFm (aA qG9 (aA qKg (aA qGA (aA qPP (aA qPQ (aA qPR (aA qPS (aA qPT (aA qKi (aA qPU (aA qPV (aA qKj (aA qGC (aA qKk (aA qBG (aA qKl (fH))))))))))))))))))))))))))))))))))))))))))))))
def hd3:Hd aC.T:=hdT aC Tryz.prog (fzC aC K3) (fun _=>false) 1000 5
theorem zD5:bJ Tryz.prog hd3:=bW mixed hno (qP0 zL9) _ _ _
end Go.Proofs.YtehpnjmgjmkjaaaGreatDoor
namespace Go.Proofs.YtehpnjmgjmkjaaaGreatDoor
open Go Go.W Go.Proofs
open Go.W.DT (ret need br bad loop join)
set_option maxRecDepth 100000
def qPW(c:Cf)(path:B):DT (Bool×Unit) :=
 need (cfN (1000000000:Nat) c) (br (shut dO c path).2 (need (cfN (1000000000:Nat) c) (ret ((↑(shut bO c path).length:Int)==(0:Int),()))) (ret (false,())))
theorem zGY(c:Cf)(path:B)(r:(Bool×Unit)):(tree hd3 noL noL 51 [.rcd 32,.str] [.bool] (c,path,())).G r=(qPW c path).G r:=by kernel_rfl
def qKm(id:Nat)(_st:St aC.T):Option (List Ld):=match id with
 | 8=>some ([.slot 8 (.int .i64)]++[.slot 9 (.int .i64)])
 | _=>none
def qKn(id:Nat)(st:St aC.T):Option (List Ld):=match id with
 | 9=>some ([.slot 8 (.int .i64)])
 | 12=>some ([.slot 8 (.int .i64)])
 | 18=>some (bK st 2 [.rcd 39])
 | _=>none
def qEh(s:Se)(a:Ap):DT (Se×Int×Unit) :=
 br (decide (a.id<(0:Int))) (ret (s,(1:Int),())) (br (decide (a.id>(9999:Int))) (ret (s,(1:Int),())) (br (decide (a.user<(0:Int))) (ret (s,(1:Int),())) (br (decide (a.user>(99:Int))) (ret (s,(1:Int),())) (br (decide (a.prio<(0:Int))) (ret (s,(1:Int),())) (br (decide (a.prio>(9:Int))) (ret (s,(1:Int),())) (br (!shut vT a.master.mem) (ret (s,(1:Int),())) (br (!shut vT a.master.cores) (ret (s,(1:Int),())) (need (bC s) (br (shut aB s a.id).2 (ret (s,(7:Int),())) ((loop ((0:Int),(0:Int),()) fun(s_1:Int×Int×Unit)=>br (decide (s_1.2.1<(↑s.apps.length:Int))) ((need (ixB s_1.2.1 (↑s.apps.length:Int)) (br ((s.apps.getD (Int.toNat s_1.2.1) dAp).state==(1:Int)) (ret (Sum.inl (w64 (s_1.1+(1:Int)),()))) (br ((s.apps.getD (Int.toNat s_1.2.1) dAp).state==(2:Int)) (ret (Sum.inl (w64 (s_1.1+(1:Int)),()))) (ret (Sum.inl (s_1.1,())))))).join fun(s:Int×Unit)=>ret (Sum.inl (s.1,w64 (s_1.2.1+(1:Int)),()))) (ret (Sum.inr (Sum.inl (s_1.1,()))))).join fun(s_1:Int×Unit)=>br (decide (s_1.1≥(16:Int))) (ret (s,(4:Int),())) (need (cfN (1000000000:Nat) s.conf) (br (shut dO s.conf a.queue).2 (need (cfN (1000000000:Nat) s.conf) (br (!(↑(shut bO s.conf a.queue).length:Int)==(0:Int)) (ret (s,(19:Int),())) ((br (decide ((↑s.apps.length:Int)≥(16:Int))) (need (bC s) (ret (Sum.inl ((shut lQ s,()),())))) (ret (Sum.inl ((s,()),())))).join fun(s:(Se×Unit)×Unit)=>need (bC s.1.1) (ret (shut dQ s.1.1 (Ap.mk a.id (1:Int) a.queue a.user a.prio a.master (shut wT a) s.1.1.now (0:Int) [] [] [] []),(0:Int),()))))) (ret (s,(19:Int),()))))))))))))))
theorem qVx(s:Se)(a:Ap)(r:(Se×Int×Unit)):(tree hd3 qKm qKn 59 [.rcd 39,.rcd 47] [.rcd 39,.int .i64] (s,a,())).G r=(qEh s a).G r:=by kernel_rfl
end Go.Proofs.YtehpnjmgjmkjaaaGreatDoor
