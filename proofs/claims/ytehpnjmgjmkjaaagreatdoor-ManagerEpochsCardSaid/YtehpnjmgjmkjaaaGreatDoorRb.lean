/- Part of the proof. No conditions. -/
import Derived.Test.YtehpnjmgjmkjaaaGreatDoorRa
noncomputable section
namespace Go.Proofs.YtehpnjmgjmkjaaaGreatDoor
open Go Go.W Go.Proofs
set_option maxRecDepth 100000
def sm(n:Nat):Bool:=Nat.ble n 1000000000
theorem eX{n:Nat}:sm n=true↔n≤1000000000:=qGw
def zJ0(a:Ap):Bool:=sm a.asks.length&&sm a.grants.length&&sm a.kills.length&&sm a.told.length&&sm a.lost.length&&sm a.queue.length
def zL6(q:Qu):Bool:=sm q.caps.length&&sm q.path.length
def bC(s:Se):Bool:=sm s.nodes.length&&sm s.apps.length&&sm s.conts.length&&sm s.slots.length&&sm s.plans.length&&sm s.conf.labels.length&&sm s.conf.queues.length&&s.apps.all zJ0&&s.conf.queues.all zL6&&s.conf.labels.all fun l=>sm l.length
structure zCT(a:Ap):Prop where
 asks:a.asks.length≤1000000000
 grants:a.grants.length≤1000000000
 kills:a.kills.length≤1000000000
 told:a.told.length≤1000000000
 lost:a.lost.length≤1000000000
 queue:a.queue.length≤1000000000
theorem zCU{a:Ap}:zJ0 a=true↔zCT a:=by
 simp only[zJ0,Bool.and_eq_true,eX]
 exact⟨fun⟨⟨⟨⟨⟨h1,h2⟩,h3⟩,h4⟩,h5⟩,h6⟩=>⟨h1,h2,h3,h4,h5,h6⟩,fun⟨h1,h2,h3,h4,h5,h6⟩=>⟨⟨⟨⟨⟨h1,h2⟩,h3⟩,h4⟩,h5⟩,h6⟩⟩
structure dV(s:Se):Prop where
 nodes:s.nodes.length≤1000000000
 apps:s.apps.length≤1000000000
 conts:s.conts.length≤1000000000
 slots:s.slots.length≤1000000000
 plans:s.plans.length≤1000000000
 labels:s.conf.labels.length≤1000000000
 queues:s.conf.queues.length≤1000000000
 app:∀a∈s.apps,zCT a
 qu:∀q∈s.conf.queues,q.caps.length≤1000000000∧q.path.length≤1000000000
 lab:∀l∈s.conf.labels,l.length≤1000000000
theorem aO{s:Se}:bC s=true↔dV s:=by
 simp only[bC,zL6,Bool.and_eq_true,eX,List.all_eq_true,zCU]
 exact⟨fun⟨⟨⟨⟨⟨⟨⟨⟨⟨h1,h2⟩,h3⟩,h4⟩,h5⟩,h6⟩,h7⟩,h8⟩,h9⟩,h10⟩=>⟨h1,h2,h3,h4,h5,h6,h7,h8,h9,h10⟩,fun⟨h1,h2,h3,h4,h5,h6,h7,h8,h9,h10⟩=>⟨⟨⟨⟨⟨⟨⟨⟨⟨h1,h2⟩,h3⟩,h4⟩,h5⟩,h6⟩,h7⟩,h8⟩,h9⟩,h10⟩⟩
theorem fE{n:Int}(h1 : -9223372036854775808≤n)(h2:n≤9223372036854775807):w64 n=n:=IntWalk.i64_in _ ⟨h1,h2⟩
theorem aG{i n:Nat}(h:i<n)(hn:n≤1000000000):w64 ((i:Int)+1)=((i+1:Nat):Int):=by rw[fE]<;>omega
def shut{α:Type}(f:α):α:=Classical.choose (⟨f,rfl⟩:∃g:α,g=f)
theorem aN{α:Type}(f:α):shut f=f:=Classical.choose_spec (⟨f,rfl⟩:∃g:α,g=f)
def gD(a b:Vec):Vec:=⟨w64 (a.mem+b.mem),w64 (a.cores+b.cores)⟩
def findD{α:Type}(d:α)(p:α→Bool)(l:List α):α×Bool:=match l.find? p with | some a=>(a,true) | none=>(d,false)
def aQ(s:Se)(id:Int):Nd×Bool:=findD dNd (fun n=>n.id==id) s.nodes
def qDE(s:Se)(id:Int):Vec:=s.conts.foldl (fun v c=>bif c.node==id then gD v c.size else v) gG
def dY(s:Se):List Int:=s.nodes.filterMap fun n=>bif n.up&&decide (w64 (s.now-n.seen)≥10) then some n.id else none
def kZ(l:List Ak)(prio:Int):Ak×Bool:=findD dAk (fun a=>a.prio==prio) l
def qB7(l:List Ak)(label:Int):Vec:=l.foldl (fun v a=>bif a.label==label then gD v ⟨w64 (a.size.mem*a.count),w64 (a.size.cores*a.count)⟩ else v) gG
def dJ(s:Se)(label:Int):Vec:=s.nodes.foldl (fun v n=>bif n.up&&n.label==label then gD v n.cap else v) gG
def qH1(s:Se)(label:Int):Vec:=s.plans.foldl (fun v p=>bif p.label==label&&decide (p.start≤s.now)&&decide (s.now<p.stop) then gD v p.need else v) gG
def aB(s:Se)(id:Int):Ap×Bool:=findD dAp (fun a=>a.id==id) s.apps
def aD(s:Se)(id:Int):Ct×Bool:=findD dCt (fun c=>c.id==id) s.conts
def nD(s:Se)(id:Int):Se:={ s with conts:=s.conts.filter fun c=>c.id != id }
def sG(s:Se):List Int:=s.apps.filterMap fun a=>bif a.state==2&&decide (w64 (s.now-a.seen)≥15) then some a.id else none
theorem fD{α ρ:Type}(p:α→Bool)(g:α→Bool→ρ)(d:α)(l:List α):scan (fun(_:Unit) a=>bif p a then .inr (g a true) else .inl ()) (fun _=>g d false) l ()=g (findD d p l).1 (findD d p l).2:=by
 rw[qGx p (fun a=>g a true) (g d false)]
 unfold findD
 cases l.find? p<;>rfl
theorem zGB{s:Se}(id:Int)(h:dV s):(qP6 s id).G ((aQ s id).1,(aQ s id).2,()):=by
 unfold qP6
 refine jU s.nodes dNd (fun i (_:Unit)=>(i,())) (fun _ a=>bif a.id==id then .inr (a,true,()) else .inl ()) (fun _=>(dNd,false,())) (fun _ _=>True) (fun i b hi _=>?_) (fun b _=>?_) (b0:=()) trivial (fD _ (fun a b=>(a,b,())) dNd _)
 ·have h1:=aG hi h.nodes
  cases hc:(s.nodes.getD i dNd).id==id<;>simp_all
 ·simp
theorem zJ1{l:List Ak}(prio:Int)(h:l.length≤1000000000):(qVi l prio).G ((kZ l prio).1,(kZ l prio).2,()):=by
 unfold qVi
 refine jU l dAk (fun i (_:Unit)=>(i,())) (fun _ a=>bif a.prio==prio then .inr (a,true,()) else .inl ()) (fun _=>(dAk,false,())) (fun _ _=>True) (fun i b hi _=>?_) (fun b _=>?_) (b0:=()) trivial (fD _ (fun a b=>(a,b,())) dAk _)
 ·have h1:=aG hi h
  cases hc:(l.getD i dAk).prio==prio<;>simp_all
 ·simp
theorem zCV{s:Se}(id:Int)(h:dV s):(qJH s id).G ((aB s id).1,(aB s id).2,()):=by
 unfold qJH
 refine jU s.apps dAp (fun i (_:Unit)=>(i,())) (fun _ a=>bif a.id==id then .inr (a,true,()) else .inl ()) (fun _=>(dAp,false,())) (fun _ _=>True) (fun i b hi _=>?_) (fun b _=>?_) (b0:=()) trivial (fD _ (fun a b=>(a,b,())) dAp _)
 ·have h1:=aG hi h.apps
  cases hc:(s.apps.getD i dAp).id==id<;>simp_all
 ·simp
theorem zCW{s:Se}(id:Int)(h:dV s):(qJI s id).G ((aD s id).1,(aD s id).2,()):=by
 unfold qJI
 refine jU s.conts dCt (fun i (_:Unit)=>(i,())) (fun _ a=>bif a.id==id then .inr (a,true,()) else .inl ()) (fun _=>(dCt,false,())) (fun _ _=>True) (fun i b hi _=>?_) (fun b _=>?_) (b0:=()) trivial (fD _ (fun a b=>(a,b,())) dCt _)
 ·have h1:=aG hi h.conts
  cases hc:(s.conts.getD i dCt).id==id<;>simp_all
 ·simp
theorem zGC{s:Se}(id:Int)(h:dV s):(qP7 s id).G (qDE s id,()):=by
 unfold qP7
 refine jU s.conts dCt (fun i (v:Vec)=>(i,(v,()),())) (fun v a=>.inl (bif a.node==id then gD v a.size else v)) (fun v=>(v,())) (fun _ _=>True) (fun i b hi _=>?_) (fun b _=>?_) (b0:=gG) trivial (bX (fin:=fun v=>(v,())) _ _ _)
 ·have h1:=aG hi h.conts
  cases hc0:(s.conts.getD i dCt).node==id<;>simp_all [gD]<;>(intros;omega)
 ·simp
theorem qVl{l:List Ak}(label:Int)(h:l.length≤1000000000):(qEc l label).G (qB7 l label,()):=by
 unfold qEc
 refine jU l dAk (fun i (v:Vec)=>(i,(v,()),())) (fun v a=>.inl (bif a.label==label then gD v ⟨w64 (a.size.mem*a.count),w64 (a.size.cores*a.count)⟩ else v)) (fun v=>(v,())) (fun _ _=>True) (fun i b hi _=>?_) (fun b _=>?_) (b0:=gG) trivial (bX (fin:=fun v=>(v,())) _ _ _)
 ·have h1:=aG hi h
  cases hc0:(l.getD i dAk).label==label<;>simp_all [gD]<;>(intros;omega)
 ·simp
theorem zCX{s:Se}(label:Int)(h:dV s):(qJG s label).G (dJ s label,()):=by
 unfold qJG
 refine jU s.nodes dNd (fun i (v:Vec)=>(i,(v,()),())) (fun v a=>.inl (bif a.up&&a.label==label then gD v a.cap else v)) (fun v=>(v,())) (fun _ _=>True) (fun i b hi _=>?_) (fun b _=>?_) (b0:=gG) trivial (bX (fin:=fun v=>(v,())) _ _ _)
 ·have h1:=aG hi h.nodes
  cases hc0:(s.nodes.getD i dNd).up<;>cases hc1:(s.nodes.getD i dNd).label==label<;>simp_all [gD]<;>(intros;omega)
 ·simp
theorem zGD{s:Se}(label:Int)(h:dV s):(qP8 s label).G (qH1 s label,()):=by
 unfold qP8
 refine jU s.plans dPn (fun i (v:Vec)=>(i,(v,()),())) (fun v a=>.inl (bif a.label==label&&decide (a.start≤s.now)&&decide (s.now<a.stop) then gD v a.need else v)) (fun v=>(v,())) (fun _ _=>True) (fun i b hi _=>?_) (fun b _=>?_) (b0:=gG) trivial (bX (fin:=fun v=>(v,())) _ _ _)
 ·have h1:=aG hi h.plans
  cases hc0:(s.plans.getD i dPn).label==label<;>cases hc1:decide ((s.plans.getD i dPn).start≤s.now)<;>cases hc2:decide (s.now<(s.plans.getD i dPn).stop)<;>simp_all [gD]<;>(intros;omega)
 ·simp
theorem qZV{s:Se}(h:dV s):(qGy s).G (dY s,()):=by
 unfold qGy
 refine jU s.nodes dNd (fun i (v:List Int)=>(v,i,())) (fun v a=>.inl (sF v (bif a.up&&decide (w64 (s.now-a.seen)≥10) then some a.id else none))) (fun v=>(v,())) (fun i b=>b.length≤i) (fun i b hi hI=>?_) (fun b hI=>?_) (b0:=[]) (Nat.zero_le _) ?_
 ·have h1:=aG hi h.nodes
  have h2:=h.nodes
  cases hc0:(s.nodes.getD i dNd).up<;>cases hc1:decide (w64 (s.now-(s.nodes.getD i dNd).seen)≥10)<;>simp_all [sF]<;>omega
 ·simp[aH]
 ·rw[bX (fin:=fun v=>(v,())),fold_filterMap];rfl
theorem qVm{s:Se}(h:dV s):(qEd s).G (sG s,()):=by
 unfold qEd
 refine jU s.apps dAp (fun i (v:List Int)=>(v,i,())) (fun v a=>.inl (sF v (bif a.state==2&&decide (w64 (s.now-a.seen)≥15) then some a.id else none))) (fun v=>(v,())) (fun i b=>b.length≤i) (fun i b hi hI=>?_) (fun b hI=>?_) (b0:=[]) (Nat.zero_le _) ?_
 ·have h1:=aG hi h.apps
  have h2:=h.apps
  cases hc0:(s.apps.getD i dAp).state==2<;>cases hc1:decide (w64 (s.now-(s.apps.getD i dAp).seen)≥15)<;>simp_all [sF]<;>omega
 ·simp[aH]
 ·rw[bX (fin:=fun v=>(v,())),fold_filterMap];rfl
theorem zCY{s:Se}(id:Int)(h:dV s):(qJJ s id).G (nD s id,()):=by
 unfold qJJ
 refine jU s.conts dCt (fun i (v:List Ct)=>(v,i,())) (fun v a=>.inl (bif a.id != id then v++[a] else v)) (fun v=>({ s with conts:=v },())) (fun i b=>b.length≤i) (fun i b hi hI=>?_) (fun b hI=>?_) (b0:=[]) (Nat.zero_le _) ?_
 ·have h1:=aG hi h.conts
  have h2:=h.conts
  cases hc:(s.conts.getD i dCt).id != id<;>simp_all<;>omega
 ·simp[aH]
 ·refine(bX (fun v a=>bif a.id != id then v++[a] else v) (fun v=>({ s with conts:=v },())) s.conts []).trans ?_
  rw[fold_filter];rfl
def qCM:TB:=con [.rcd 39,.int .i64] [.rcd 57,.bool] (fun a=>bC a.1) (fun a=>((shut aQ a.1 a.2.1).1,(shut aQ a.1 a.2.1).2,())) rfl
theorem qIw:aM 48 qCM :=
 row_of eO (L:=qX1) (J:=noL) (by kernel_rfl) rfl rfl fun a h=>Eq.mpr (zG8 a.1 a.2.1 _) (by simp only[aN];exact zGB _ (aO.1 h))
def qCN:TB:=con [.rcd 39,.int .i64] [.rcd 27] (fun a=>bC a.1) (fun a=>(shut qDE a.1 a.2.1,())) rfl
theorem qIx:aM 109 qCN :=
 row_of eO (L:=qX2) (J:=qX3) (by kernel_rfl) rfl rfl fun a h=>Eq.mpr (zG9 a.1 a.2.1 _) (by simp only[aN];exact zGC _ (aO.1 h))
def uR:TB:=con [.rcd 39] [.dat 3] (fun a=>bC a.1) (fun a=>(shut dY a.1,())) rfl
theorem qCO:aM 149 uR :=
 row_of eO (L:=qNd) (J:=qNe) (by kernel_rfl) rfl rfl fun a h=>Eq.mpr (qZU a.1 _) (by simp only[aN];exact qZV (aO.1 h))
def qGz:TB:=con [.dat 95,.int .i64] [.rcd 95,.bool] (fun a=>sm (List.length a.1)) (fun a=>((shut kZ a.1 a.2.1).1,(shut kZ a.1 a.2.1).2,())) rfl
theorem qP9:aM 326 qGz :=
 row_of eO (L:=zCO) (J:=noL) (by kernel_rfl) rfl rfl fun a h=>Eq.mpr (zJz a.1 a.2.1 _) (by simp only[aN];exact zJ1 _ (eX.1 h))
def qQ:TB:=con [.dat 95,.int .i64] [.rcd 27] (fun a=>sm (List.length a.1)) (fun a=>(shut qB7 a.1 a.2.1,())) rfl
theorem qA4:aM 401 qQ :=
 row_of eO (L:=qJE) (J:=qJF) (by kernel_rfl) rfl rfl fun a h=>Eq.mpr (qVj a.1 a.2.1 _) (by simp only[aN];exact qVl _ (eX.1 h))
def zB:TB:=con [.rcd 39,.int .i64] [.rcd 27] (fun a=>bC a.1) (fun a=>(shut dJ a.1 a.2.1,())) rfl
theorem qFd:aM 157 zB :=
 row_of eO (L:=qRM) (J:=qRN) (by kernel_rfl) rfl rfl fun a h=>Eq.mpr (zCP a.1 a.2.1 _) (by simp only[aN];exact zCX _ (aO.1 h))
def qCP:TB:=con [.rcd 39,.int .i64] [.rcd 27] (fun a=>bC a.1) (fun a=>(shut qH1 a.1 a.2.1,())) rfl
theorem qIy:aM 392 qCP :=
 row_of eO (L:=qX4) (J:=qX5) (by kernel_rfl) rfl rfl fun a h=>Eq.mpr (zGA a.1 a.2.1 _) (by simp only[aN];exact zGD _ (aO.1 h))
def zC:TB:=con [.rcd 39,.int .i64] [.rcd 47,.bool] (fun a=>bC a.1) (fun a=>((shut aB a.1 a.2.1).1,(shut aB a.1 a.2.1).2,())) rfl
theorem qFe:aM 47 zC :=
 row_of eO (L:=qRO) (J:=noL) (by kernel_rfl) rfl rfl fun a h=>Eq.mpr (zCQ a.1 a.2.1 _) (by simp only[aN];exact zCV _ (aO.1 h))
def zD:TB:=con [.rcd 39,.int .i64] [.rcd 50,.bool] (fun a=>bC a.1) (fun a=>((shut aD a.1 a.2.1).1,(shut aD a.1 a.2.1).2,())) rfl
theorem qFf:aM 17 zD :=
 row_of eO (L:=qRP) (J:=noL) (by kernel_rfl) rfl rfl fun a h=>Eq.mpr (zCR a.1 a.2.1 _) (by simp only[aN];exact zCW _ (aO.1 h))
def zF:TB:=con [.rcd 39,.int .i64] [.rcd 39] (fun a=>bC a.1) (fun a=>(shut nD a.1 a.2.1,())) rfl
theorem qFg:aM 146 zF :=
 row_of eO (L:=qRQ) (J:=qRR) (by kernel_rfl) rfl rfl fun a h=>Eq.mpr (zCS a.1 a.2.1 _) (by simp only[aN];exact zCY _ (aO.1 h))
def qR:TB:=con [.rcd 39] [.dat 3] (fun a=>bC a.1) (fun a=>(shut sG a.1,())) rfl
theorem qA5:aM 152 qR :=
 row_of eO (L:=qJK) (J:=qJL) (by kernel_rfl) rfl rfl fun a h=>Eq.mpr (qVk a.1 _) (by simp only[aN];exact qVm (aO.1 h))
end Go.Proofs.YtehpnjmgjmkjaaaGreatDoor
namespace Go.Proofs.YtehpnjmgjmkjaaaGreatDoor
open Go Go.W Go.Proofs
open Go.W.DT (ret need br bad loop join)
set_option maxRecDepth 100000
def zCZ(id:Nat)(_st:St aC.T):Option (List Ld):=match id with
 | 2=>some ([.slot 5 (.int .i64)])
 | _=>none
def zDa(id:Nat)(st:St aC.T):Option (List Ld):=match id with
 | 4=>some ([.slot 5 (.int .i64)])
 | 5=>some ([aY st 6 57 false])
 | 6=>some ([aY st 6 57 false])
 | 8=>some ([.slot 5 (.int .i64)])
 | _=>none
def qVn(s:Se)(n:Nd):DT (Se×Unit) :=
 (loop ((0:Int),()) fun(s_1:Int×Unit)=>br (decide (s_1.1<(↑s.nodes.length:Int))) (need (ixB s_1.1 (↑s.nodes.length:Int)) (br (decide ((s.nodes.getD (Int.toNat s_1.1) dNd).id<n.id)) (ret (Sum.inl (w64 (s_1.1+(1:Int)),()))) (ret (Sum.inr (Sum.inl (s_1.1,())))))) (ret (Sum.inr (Sum.inl (s_1.1,()))))).join fun(s_1:Int×Unit)=>(need (decide ((0:Int)≤s_1.1)&&decide (s_1.1≤(↑s.nodes.length:Int))&&true&&true) (need (aX ((0:Nat)+List.length (@aH Nd (0:Nat) (Int.toNat s_1.1) s.nodes)) (64:Nat)&&true) (need (((0:Nat)+List.length (@aH Nd (0:Nat) (Int.toNat s_1.1) s.nodes)).beq ([] ++ @aH Nd (0:Nat) (Int.toNat s_1.1) s.nodes).length) (ret (Sum.inl ([] ++ @aH Nd (0:Nat) (Int.toNat s_1.1) s.nodes,())))))).join fun(s_2:List Nd×Unit)=>(need (((0:Nat)+s_2.1.length).beq s_2.1.length) (need (aX (s_2.1.length+(1:Nat)) (64:Nat)&&((0:Nat)+s_2.1.length).ble s_2.1.length) (need ((s_2.1.length+(1:Nat)).beq (@aR Nd (0:Nat) s_2.1.length s_2.1++[n]).length) (ret (Sum.inl (@aR Nd (0:Nat) s_2.1.length s_2.1++[n],())))))).join fun(s_3:List Nd×Unit)=>(br (decide (s_1.1<(↑s.nodes.length:Int))) (need (ixB s_1.1 (↑s.nodes.length:Int)) (br ((s.nodes.getD (Int.toNat s_1.1) dNd).id==n.id) (ret (Sum.inl (w64 (s_1.1+(1:Int)),()))) (ret (Sum.inl (s_1.1,()))))) (ret (Sum.inl (s_1.1,())))).join fun(s_4:Int×Unit)=>need (slB s_4.1 (↑s.nodes.length:Int) (↑s.nodes.length:Int)) (need (((0:Nat)+s_3.1.length).beq s_3.1.length) (need (aX (s_3.1.length+List.length (@aH Nd (Int.toNat s_4.1) (↑s.nodes.length:Int).toNat s.nodes)) (64:Nat)&&((0:Nat)+s_3.1.length).ble s_3.1.length) (need (((0:Nat)+(s_3.1.length+List.length (@aH Nd (Int.toNat s_4.1) (↑s.nodes.length:Int).toNat s.nodes))).ble (@aR Nd (0:Nat) s_3.1.length s_3.1 ++ @aH Nd (Int.toNat s_4.1) (↑s.nodes.length:Int).toNat s.nodes).length&&true) (need (((0:Nat)+(s_3.1.length
 + List.length (@aH Nd (Int.toNat s_4.1) (↑s.nodes.length:Int).toNat s.nodes))).ble (@aR Nd (0:Nat) s_3.1.length s_3.1 ++ @aH Nd (Int.toNat s_4.1) (↑s.nodes.length:Int).toNat s.nodes).length&&true&&true) (need (((0:Nat)+(s_3.1.length+List.length (@aH Nd (Int.toNat s_4.1) (↑s.nodes.length:Int).toNat s.nodes))).ble (@aR Nd (0:Nat) s_3.1.length s_3.1 ++ @aH Nd (Int.toNat s_4.1) (↑s.nodes.length:Int).toNat s.nodes).length&&true&&true) (ret (Se.mk s.conf (@aH Nd (0:Nat) ((0:Nat)+(s_3.1.length+List.length (@aH Nd (Int.toNat s_4.1) (↑s.nodes.length:Int).toNat s.nodes))) (@aR Nd (0:Nat) s_3.1.length s_3.1 ++ @aH Nd (Int.toNat s_4.1) (↑s.nodes.length:Int).toNat s.nodes)) s.apps s.conts s.slots s.plans s.now s.epoch s.seq,())))))))
theorem zJ2(s:Se)(n:Nd)(r:(Se×Unit)):(tree hd0 zCZ zDa 134 [.rcd 39,.rcd 57] [.rcd 39] (s,n,())).G r=(qVn s n).G r:=by kernel_rfl
def zDb(id:Nat)(st:St aC.T):Option (List Ld):=match id with
 | 5=>some ([aY st 6 95 false]++[.slot 7 (.bool)]++[.slot 8 (.int .i64)])
 | _=>none
def zDc(id:Nat)(st:St aC.T):Option (List Ld):=match id with
 | 6=>some ([aY st 6 95 false]++[.slot 7 (.bool)])
 | 9=>some ([aY st 6 95 false])
 | 10=>some ([aY st 6 95 false]++[.slot 7 (.bool)])
 | 12=>some ([aY st 6 95 false]++[.slot 7 (.bool)])
 | 14=>some ([aY st 6 95 false])
 | _=>none
def qVo(l:List Ak)(x:Ak):DT (List Ak×Int×Unit) :=
 (loop ([],x.count==(0:Int),(0:Int),()) fun(s:List Ak×Bool×Int×Unit)=>br (decide (s.2.2.1<(↑l.length:Int))) (((br (!s.2.1) (need (ixB (s.2.2.1) (↑l.length:Int)) (br (decide ((l.getD (Int.toNat (s.2.2.1)) dAk).prio>x.prio)) ((need (((0:Nat)+s.1.length).beq s.1.length) (need (aX (s.1.length+(1:Nat)) (64:Nat)&&((0:Nat)+s.1.length).ble s.1.length) (need ((s.1.length+(1:Nat)).beq (@aR Ak (0:Nat) s.1.length s.1++[Ak.mk x.prio x.label x.size x.count x.node x.rack (0:Int)]).length) (ret (Sum.inl (@aR Ak (0:Nat) s.1.length s.1++[Ak.mk x.prio x.label x.size x.count x.node x.rack (0:Int)],())))))).join fun(s_1:List Ak×Unit)=>need (s_1.1.length.beq s_1.1.length) (ret (Sum.inl (s_1.1,true,())))) (need (s.1.length.beq s.1.length) (ret (Sum.inl (s.1,s.2.1,())))))) (need (s.1.length.beq s.1.length) (ret (Sum.inl (s.1,s.2.1,()))))).join fun(s_1:List Ak×Bool×Unit)=>need (ixB (s.2.2.1) (↑l.length:Int)) (br ((l.getD (Int.toNat (s.2.2.1)) dAk).prio != x.prio) (need (ixB (s.2.2.1) (↑l.length:Int)) (need (((0:Nat)+s_1.1.length).beq s_1.1.length) (need (aX (s_1.1.length+(1:Nat)) (64:Nat)&&((0:Nat)+s_1.1.length).ble s_1.1.length) (need ((s_1.1.length+(1:Nat)).beq (@aR Ak (0:Nat) s_1.1.length s_1.1++[l.getD (Int.toNat (s.2.2.1)) dAk]).length) (ret (Sum.inl (@aR Ak (0:Nat) s_1.1.length s_1.1++[l.getD (Int.toNat (s.2.2.1)) dAk],s_1.2.1,()))))))) (need (s_1.1.length.beq s_1.1.length) (ret (Sum.inl (s_1.1,s_1.2.1,())))))).join fun(s_1:List Ak×Bool×Unit)=>need (s_1.1.length.beq s_1.1.length) (ret (Sum.inl (s_1.1,s_1.2.1,w64 (s.2.2.1+(1:Int)),())))) (need (s.1.length.beq s.1.length) (ret (Sum.inr (Sum.inl (s.1,s.2.1,())))))).join fun(s:List Ak×Bool×Unit)=>(br (!s.2.1) (need (((0:Nat)+s.1.length).beq s.1.length) (need (aX (s.1.length+(1:Nat)) (64:Nat)&&((0:Nat)+s.1.length).ble s.1.length) (need ((s.1.length+(1:Nat)).beq
 (@aR Ak (0:Nat) s.1.length s.1++[Ak.mk x.prio x.label x.size x.count x.node x.rack (0:Int)]).length) (ret (Sum.inl (@aR Ak (0:Nat) s.1.length s.1++[Ak.mk x.prio x.label x.size x.count x.node x.rack (0:Int)],())))))) (need (s.1.length.beq s.1.length) (ret (Sum.inl (s.1,()))))).join fun(s_1:List Ak×Unit)=>br (decide ((↑s_1.1.length:Int)>(8:Int))) (ret ([],(4:Int),())) (need (((0:Nat)+s_1.1.length).ble s_1.1.length&&true) (ret (@aH Ak (0:Nat) ((0:Nat)+s_1.1.length) s_1.1,(0:Int),())))
theorem zJ3(l:List Ak)(x:Ak)(r:(List Ak×Int×Unit)):(tree hd0 zDb zDc 227 [.dat 95,.rcd 95] [.dat 95,.int .i64] (l,x,())).G r=(qVo l x).G r:=by kernel_rfl
def qX6(id:Nat)(st:St aC.T):Option (List Ld):=match id with
 | 4=>some ([.slot 7 (.bool)]++[aY st 6 95 false]++[.slot 8 (.int .i64)])
 | _=>none
def qX7(id:Nat)(st:St aC.T):Option (List Ld):=match id with
 | 5=>some ([.slot 7 (.bool)]++[aY st 6 95 false])
 | 11=>some ([.slot 7 (.bool)]++bK st 9 [.rcd 95])
 | _=>none
def qPA(l:List Ak)(prio:Int):DT (List Ak×Bool×Unit) :=
 loop (false,[],(0:Int),()) fun(s:Bool×List Ak×Int×Unit)=>br (decide (s.2.2.1<(↑l.length:Int))) ((need (ixB (s.2.2.1) (↑l.length:Int)) ((br ((l.getD (Int.toNat (s.2.2.1)) dAk).prio==prio) (br (decide (w64 ((l.getD (Int.toNat (s.2.2.1)) dAk).count-(1:Int))≤(0:Int))) (need (s.2.1.length.beq s.2.1.length) (ret (Sum.inr (Sum.inl (true,s.2.1,()))))) (ret (Sum.inl (true,(Ak.mk (l.getD (Int.toNat (s.2.2.1)) dAk).prio (l.getD (Int.toNat (s.2.2.1)) dAk).label (l.getD (Int.toNat (s.2.2.1)) dAk).size (w64 ((l.getD (Int.toNat (s.2.2.1)) dAk).count-(1:Int))) (l.getD (Int.toNat (s.2.2.1)) dAk).node (l.getD (Int.toNat (s.2.2.1)) dAk).rack (0:Int),()),())))) (ret (Sum.inl (s.1,(l.getD (Int.toNat (s.2.2.1)) dAk,()),())))).join fun(s_1:Bool×(Ak×Unit)×Unit)=>need (((0:Nat)+s.2.1.length).beq s.2.1.length) (need (aX (s.2.1.length+(1:Nat)) (64:Nat)&&((0:Nat)+s.2.1.length).ble s.2.1.length) (need ((s.2.1.length+(1:Nat)).beq (@aR Ak (0:Nat) s.2.1.length s.2.1++[s_1.2.1.1]).length) (ret (Sum.inl (s_1.1,@aR Ak (0:Nat) s.2.1.length s.2.1++[s_1.2.1.1],()))))))).join fun(s_1:Bool×List Ak×Unit)=>need (s_1.2.1.length.beq s_1.2.1.length) (ret (Sum.inl (s_1.1,s_1.2.1,w64 (s.2.2.1+(1:Int)),())))) (need (((0:Nat)+s.2.1.length).ble s.2.1.length&&true) (ret (Sum.inr (@aH Ak (0:Nat) ((0:Nat)+s.2.1.length) s.2.1,s.1,()))))
theorem zGE(l:List Ak)(prio:Int)(r:(List Ak×Bool×Unit)):(tree hd0 qX6 qX7 393 [.dat 95,.int .i64] [.dat 95,.bool] (l,prio,())).G r=(qPA l prio).G r:=by kernel_rfl
def qX8(id:Nat)(_st:St aC.T):Option (List Ld):=match id with
 | 2=>some ([.slot 5 (.int .i64)])
 | _=>none
def qX9(id:Nat)(st:St aC.T):Option (List Ld):=match id with
 | 4=>some ([.slot 5 (.int .i64)])
 | 5=>some ([aY st 6 47 false])
 | 6=>some ([aY st 6 47 false])
 | 8=>some ([.slot 5 (.int .i64)])
 | _=>none
def qPB(s:Se)(x:Ap):DT (Se×Unit) :=
 (loop ((0:Int),()) fun(s_1:Int×Unit)=>br (decide (s_1.1<(↑s.apps.length:Int))) (need (ixB s_1.1 (↑s.apps.length:Int)) (br (decide ((s.apps.getD (Int.toNat s_1.1) dAp).id<x.id)) (ret (Sum.inl (w64 (s_1.1+(1:Int)),()))) (ret (Sum.inr (Sum.inl (s_1.1,())))))) (ret (Sum.inr (Sum.inl (s_1.1,()))))).join fun(s_1:Int×Unit)=>(need (decide ((0:Int)≤s_1.1)&&decide (s_1.1≤(↑s.apps.length:Int))&&true&&true) (need (aX ((0:Nat)+List.length (@aH Ap (0:Nat) (Int.toNat s_1.1) s.apps)) (200:Nat)&&true) (need (((0:Nat)+List.length (@aH Ap (0:Nat) (Int.toNat s_1.1) s.apps)).beq ([] ++ @aH Ap (0:Nat) (Int.toNat s_1.1) s.apps).length) (ret (Sum.inl ([] ++ @aH Ap (0:Nat) (Int.toNat s_1.1) s.apps,())))))).join fun(s_2:List Ap×Unit)=>(need (((0:Nat)+s_2.1.length).beq s_2.1.length) (need (aX (s_2.1.length+(1:Nat)) (200:Nat)&&((0:Nat)+s_2.1.length).ble s_2.1.length) (need ((s_2.1.length+(1:Nat)).beq (@aR Ap (0:Nat) s_2.1.length s_2.1++[x]).length) (ret (Sum.inl (@aR Ap (0:Nat) s_2.1.length s_2.1++[x],())))))).join fun(s_3:List Ap×Unit)=>(br (decide (s_1.1<(↑s.apps.length:Int))) (need (ixB s_1.1 (↑s.apps.length:Int)) (br ((s.apps.getD (Int.toNat s_1.1) dAp).id==x.id) (ret (Sum.inl (w64 (s_1.1+(1:Int)),()))) (ret (Sum.inl (s_1.1,()))))) (ret (Sum.inl (s_1.1,())))).join fun(s_4:Int×Unit)=>need (slB s_4.1 (↑s.apps.length:Int) (↑s.apps.length:Int)) (need (((0:Nat)+s_3.1.length).beq s_3.1.length) (need (aX (s_3.1.length+List.length (@aH Ap (Int.toNat s_4.1) (↑s.apps.length:Int).toNat s.apps)) (200:Nat)&&((0:Nat)+s_3.1.length).ble s_3.1.length) (need (((0:Nat)+(s_3.1.length+List.length (@aH Ap (Int.toNat s_4.1) (↑s.apps.length:Int).toNat s.apps))).ble (@aR Ap (0:Nat) s_3.1.length s_3.1 ++ @aH Ap (Int.toNat s_4.1) (↑s.apps.length:Int).toNat s.apps).length&&true) (need (((0:Nat)+(s_3.1.length+List.length
 (@aH Ap (Int.toNat s_4.1) (↑s.apps.length:Int).toNat s.apps))).ble (@aR Ap (0:Nat) s_3.1.length s_3.1 ++ @aH Ap (Int.toNat s_4.1) (↑s.apps.length:Int).toNat s.apps).length&&true&&true) (need (((0:Nat)+(s_3.1.length+List.length (@aH Ap (Int.toNat s_4.1) (↑s.apps.length:Int).toNat s.apps))).ble (@aR Ap (0:Nat) s_3.1.length s_3.1 ++ @aH Ap (Int.toNat s_4.1) (↑s.apps.length:Int).toNat s.apps).length&&true&&true) (ret (Se.mk s.conf s.nodes (@aH Ap (0:Nat) ((0:Nat)+(s_3.1.length+List.length (@aH Ap (Int.toNat s_4.1) (↑s.apps.length:Int).toNat s.apps))) (@aR Ap (0:Nat) s_3.1.length s_3.1 ++ @aH Ap (Int.toNat s_4.1) (↑s.apps.length:Int).toNat s.apps)) s.conts s.slots s.plans s.now s.epoch s.seq,())))))))
theorem zGF(s:Se)(x:Ap)(r:(Se×Unit)):(tree hd0 qX8 qX9 141 [.rcd 39,.rcd 47] [.rcd 39] (s,x,())).G r=(qPB s x).G r:=by kernel_rfl
def qJM(id:Nat)(st:St aC.T):Option (List Ld):=match id with
 | 4=>some ([.slot 4 (.bool)]++[aY st 3 47 false]++[.slot 5 (.int .i64)])
 | _=>none
def qJN(id:Nat)(st:St aC.T):Option (List Ld):=match id with
 | 5=>some ([.slot 4 (.bool)]++[aY st 3 47 false])
 | _=>none
def qEe(s:Se):DT (Se×Unit) :=
 loop (false,[],(0:Int),()) fun(s_1:Bool×List Ap×Int×Unit)=>br (decide (s_1.2.2.1<(↑s.apps.length:Int))) ((br (!s_1.1) (need (ixB (s_1.2.2.1) (↑s.apps.length:Int)) (br ((s.apps.getD (Int.toNat (s_1.2.2.1)) dAp).state==(1:Int)) (need (ixB (s_1.2.2.1) (↑s.apps.length:Int)) (need (((0:Nat)+s_1.2.1.length).beq s_1.2.1.length) (need (aX (s_1.2.1.length+(1:Nat)) (200:Nat)&&((0:Nat)+s_1.2.1.length).ble s_1.2.1.length) (need ((s_1.2.1.length+(1:Nat)).beq (@aR Ap (0:Nat) s_1.2.1.length s_1.2.1++[s.apps.getD (Int.toNat (s_1.2.2.1)) dAp]).length) (ret (Sum.inl (s_1.1,@aR Ap (0:Nat) s_1.2.1.length s_1.2.1++[s.apps.getD (Int.toNat (s_1.2.2.1)) dAp],()))))))) (br (!(s.apps.getD (Int.toNat (s_1.2.2.1)) dAp).state==(2:Int)) (need (s_1.2.1.length.beq s_1.2.1.length) (ret (Sum.inl (true,s_1.2.1,())))) (need (ixB (s_1.2.2.1) (↑s.apps.length:Int)) (need (((0:Nat)+s_1.2.1.length).beq s_1.2.1.length) (need (aX (s_1.2.1.length+(1:Nat)) (200:Nat)&&((0:Nat)+s_1.2.1.length).ble s_1.2.1.length) (need ((s_1.2.1.length+(1:Nat)).beq (@aR Ap (0:Nat) s_1.2.1.length s_1.2.1++[s.apps.getD (Int.toNat (s_1.2.2.1)) dAp]).length) (ret (Sum.inl (s_1.1,@aR Ap (0:Nat) s_1.2.1.length s_1.2.1++[s.apps.getD (Int.toNat (s_1.2.2.1)) dAp],())))))))))) (need (ixB (s_1.2.2.1) (↑s.apps.length:Int)) (need (((0:Nat)+s_1.2.1.length).beq s_1.2.1.length) (need (aX (s_1.2.1.length+(1:Nat)) (200:Nat)&&((0:Nat)+s_1.2.1.length).ble s_1.2.1.length) (need ((s_1.2.1.length+(1:Nat)).beq (@aR Ap (0:Nat) s_1.2.1.length s_1.2.1++[s.apps.getD (Int.toNat (s_1.2.2.1)) dAp]).length) (ret (Sum.inl (s_1.1,@aR Ap (0:Nat) s_1.2.1.length s_1.2.1++[s.apps.getD (Int.toNat (s_1.2.2.1)) dAp],())))))))).join fun(s_2:Bool×List Ap×Unit)=>need (s_2.2.1.length.beq s_2.2.1.length) (ret (Sum.inl (s_2.1,s_2.2.1,w64 (s_1.2.2.1+(1:Int)),())))) (need (((0:Nat)+s_1.2.1.length).ble
 s_1.2.1.length&&true) (need (((0:Nat)+s_1.2.1.length).ble s_1.2.1.length&&true&&true) (need (((0:Nat)+s_1.2.1.length).ble s_1.2.1.length&&true&&true) (ret (Sum.inr (Se.mk s.conf s.nodes (@aH Ap (0:Nat) ((0:Nat)+s_1.2.1.length) s_1.2.1) s.conts s.slots s.plans s.now s.epoch s.seq,()))))))
theorem qVp(s:Se)(r:(Se×Unit)):(tree hd0 qJM qJN 140 [.rcd 39] [.rcd 39] (s,())).G r=(qEe s).G r:=by kernel_rfl
def qRS(id:Nat)(st:St aC.T):Option (List Ld):=match id with
 | 5=>some ([aY st 8 3 false]++[aY st 6 50 false]++[.slot 9 (.int .i64)])
 | 11=>some ([aY st 7 85 false]++[.slot 10 (.int .i64)])
 | _=>none
def qRT(id:Nat)(st:St aC.T):Option (List Ld):=match id with
 | 6=>some ([aY st 8 3 false]++[aY st 6 50 false])
 | 10=>some ([aY st 8 3 false]++[aY st 6 50 false])
 | 12=>some ([aY st 7 85 false])
 | _=>none
def qJO(s:Se)(id:Int):DT (Se×List Int×Unit) :=
 (loop ([],[],(0:Int),()) fun(s_1:List Int×List Ct×Int×Unit)=>br (decide (s_1.2.2.1<(↑s.conts.length:Int))) ((need (ixB (s_1.2.2.1) (↑s.conts.length:Int)) (br ((s.conts.getD (Int.toNat (s_1.2.2.1)) dCt).app==id) (need (ixB (s_1.2.2.1) (↑s.conts.length:Int)) (need (((0:Nat)+s_1.1.length).beq s_1.1.length) (need (aX (s_1.1.length+(1:Nat)) (8:Nat)&&((0:Nat)+s_1.1.length).ble s_1.1.length) (need ((s_1.1.length+(1:Nat)).beq (@aR Int (0:Nat) s_1.1.length s_1.1++[(s.conts.getD (Int.toNat (s_1.2.2.1)) dCt).id]).length&&s_1.2.1.length.beq s_1.2.1.length) (ret (Sum.inl (@aR Int (0:Nat) s_1.1.length s_1.1++[(s.conts.getD (Int.toNat (s_1.2.2.1)) dCt).id],s_1.2.1,()))))))) (need (ixB (s_1.2.2.1) (↑s.conts.length:Int)) (need (((0:Nat)+s_1.2.1.length).beq s_1.2.1.length) (need (aX (s_1.2.1.length+(1:Nat)) (72:Nat)&&((0:Nat)+s_1.2.1.length).ble s_1.2.1.length) (need (s_1.1.length.beq s_1.1.length&&(s_1.2.1.length+(1:Nat)).beq (@aR Ct (0:Nat) s_1.2.1.length s_1.2.1++[s.conts.getD (Int.toNat (s_1.2.2.1)) dCt]).length) (ret (Sum.inl (s_1.1,@aR Ct (0:Nat) s_1.2.1.length s_1.2.1++[s.conts.getD (Int.toNat (s_1.2.2.1)) dCt],()))))))))).join fun(s_2:List Int×List Ct×Unit)=>need (s_2.1.length.beq s_2.1.length&&s_2.2.1.length.beq s_2.2.1.length) (ret (Sum.inl (s_2.1,s_2.2.1,w64 (s_1.2.2.1+(1:Int)),())))) (need (s_1.1.length.beq s_1.1.length&&s_1.2.1.length.beq s_1.2.1.length) (ret (Sum.inr (Sum.inl (s_1.1,s_1.2.1,())))))).join fun(s_1:List Int×List Ct×Unit)=>loop ([],(0:Int),()) fun(s_2:List Sl×Int×Unit)=>br (decide (s_2.2.1<(↑s.slots.length:Int))) ((need (ixB s_2.2.1 (↑s.slots.length:Int)) (br ((s.slots.getD (Int.toNat s_2.2.1) dSl).app != id) (need (ixB s_2.2.1 (↑s.slots.length:Int)) (need (((0:Nat)+s_2.1.length).beq s_2.1.length) (need (aX (s_2.1.length+(1:Nat)) (24:Nat)&&((0:Nat)+s_2.1.length).ble s_2.1.length) (need
 ((s_2.1.length+(1:Nat)).beq (@aR Sl (0:Nat) s_2.1.length s_2.1++[s.slots.getD (Int.toNat s_2.2.1) dSl]).length) (ret (Sum.inl (@aR Sl (0:Nat) s_2.1.length s_2.1++[s.slots.getD (Int.toNat s_2.2.1) dSl],()))))))) (need (s_2.1.length.beq s_2.1.length) (ret (Sum.inl (s_2.1,())))))).join fun(s_3:List Sl×Unit)=>need (s_3.1.length.beq s_3.1.length) (ret (Sum.inl (s_3.1,w64 (s_2.2.1+(1:Int)),())))) (need (((0:Nat)+s_1.2.1.length).ble s_1.2.1.length&&true&&true) (need (((0:Nat)+s_1.2.1.length).ble s_1.2.1.length&&true&&true) (need (((0:Nat)+s_1.2.1.length).ble s_1.2.1.length&&true&&true) (need (((0:Nat)+s_1.1.length).ble s_1.1.length&&true) (need (((0:Nat)+s_2.1.length).ble s_2.1.length&&true&&true) (need (((0:Nat)+s_2.1.length).ble s_2.1.length&&true&&true) (need (((0:Nat)+s_2.1.length).ble s_2.1.length&&true&&true) (ret (Sum.inr (Se.mk s.conf s.nodes s.apps (@aH Ct (0:Nat) ((0:Nat)+s_1.2.1.length) s_1.2.1) (@aH Sl (0:Nat) ((0:Nat)+s_2.1.length) s_2.1) s.plans s.now s.epoch s.seq,@aH Int (0:Nat) ((0:Nat)+s_1.1.length) s_1.1,()))))))))))
theorem zDd(s:Se)(id:Int)(r:(Se×List Int×Unit)):(tree hd0 qRS qRT 224 [.rcd 39,.int .i64] [.rcd 39,.dat 3] (s,id,())).G r=(qJO s id).G r:=by kernel_rfl
def qH2(id:Nat)(st:St aC.T):Option (List Ld):=match id with
 | 3=>some ([aY st 6 3 false]++[.slot 7 (.int .i64)])
 | _=>none
def qH3(id:Nat)(st:St aC.T):Option (List Ld):=match id with
 | 4=>some ([aY st 6 3 false])
 | _=>none
def qB8(l:List Int)(n:Int):DT (List Int×Bool×Unit) :=
 loop ([],(0:Int),()) fun(s:List Int×Int×Unit)=>br (decide (s.2.1<(↑l.length:Int))) ((need (ixB s.2.1 (↑l.length:Int)) (br (l.getD (Int.toNat s.2.1) (0:Int) != n) (need (ixB s.2.1 (↑l.length:Int)) (need (((0:Nat)+s.1.length).beq s.1.length) (need (aX (s.1.length+(1:Nat)) (8:Nat)&&((0:Nat)+s.1.length).ble s.1.length) (need ((s.1.length+(1:Nat)).beq (@aR Int (0:Nat) s.1.length s.1++[l.getD (Int.toNat s.2.1) (0:Int)]).length) (ret (Sum.inl (@aR Int (0:Nat) s.1.length s.1++[l.getD (Int.toNat s.2.1) (0:Int)],()))))))) (need (s.1.length.beq s.1.length) (ret (Sum.inl (s.1,())))))).join fun(s_1:List Int×Unit)=>need (s_1.1.length.beq s_1.1.length) (ret (Sum.inl (s_1.1,w64 (s.2.1+(1:Int)),())))) (need (((0:Nat)+s.1.length).ble s.1.length&&true) (ret (Sum.inr (@aH Int (0:Nat) ((0:Nat)+s.1.length) s.1,decide ((↑s.1.length:Int)<(↑l.length:Int)),()))))
theorem qRU(l:List Int)(n:Int)(r:(List Int×Bool×Unit)):(tree hd0 qH2 qH3 147 [.dat 3,.int .i64] [.dat 3,.bool] (l,n,())).G r=(qB8 l n).G r:=by kernel_rfl
def qRV(id:Nat)(_st:St aC.T):Option (List Ld):=match id with
 | 2=>some ([.slot 3 (.int .i64)])
 | _=>none
def qRW(id:Nat)(_st:St aC.T):Option (List Ld):=match id with
 | 4=>some ([.slot 3 (.int .i64)])
 | _=>none
def qJP(path:B):DT (List UInt8×Unit) :=
 (loop (w64 ((↑(path.length):Int)-(1:Int)),()) fun(s:Int×Unit)=>br (decide (s.1≥(0:Int))) (need (decide ((0:Int)≤s.1)&&decide (s.1<(↑(path.length):Int))) (br ((↑(List.getD path (Int.toNat s.1) (OfNat.ofNat (0:Nat))).toNat:Int) != (46:Int)) (ret (Sum.inl (w64 (s.1-(1:Int)),()))) (ret (Sum.inr (Sum.inl (s.1,())))))) (ret (Sum.inr (Sum.inl (s.1,()))))).join fun(s:Int×Unit)=>br (decide (s.1<(0:Int))) (ret ([],())) (need (decide ((0:Int)≤s.1)&&decide (s.1≤(↑(path.length):Int))) (ret (@aH UInt8 (0:Nat) (Int.toNat s.1) path,())))
theorem zDe(path:B)(r:(List UInt8×Unit)):(tree hd0 qRV qRW 158 [.str] [.str] (path,())).G r=(qJP path).G r:=by kernel_rfl
def qJQ(id:Nat)(st:St aC.T):Option (List Ld):=match id with
 | 3=>some ([aY st 5 85 false]++[.slot 6 (.int .i64)])
 | _=>none
def qJR(id:Nat)(st:St aC.T):Option (List Ld):=match id with
 | 4=>some ([aY st 5 85 false])
 | _=>none
def qEf(s:Se)(node:Int):DT (Se×Unit) :=
 loop ([],(0:Int),()) fun(s_1:List Sl×Int×Unit)=>br (decide (s_1.2.1<(↑s.slots.length:Int))) ((need (ixB s_1.2.1 (↑s.slots.length:Int)) (br ((s.slots.getD (Int.toNat s_1.2.1) dSl).node != node) (need (ixB s_1.2.1 (↑s.slots.length:Int)) (need (((0:Nat)+s_1.1.length).beq s_1.1.length) (need (aX (s_1.1.length+(1:Nat)) (24:Nat)&&((0:Nat)+s_1.1.length).ble s_1.1.length) (need ((s_1.1.length+(1:Nat)).beq (@aR Sl (0:Nat) s_1.1.length s_1.1++[s.slots.getD (Int.toNat s_1.2.1) dSl]).length) (ret (Sum.inl (@aR Sl (0:Nat) s_1.1.length s_1.1++[s.slots.getD (Int.toNat s_1.2.1) dSl],()))))))) (need (s_1.1.length.beq s_1.1.length) (ret (Sum.inl (s_1.1,())))))).join fun(s_2:List Sl×Unit)=>need (s_2.1.length.beq s_2.1.length) (ret (Sum.inl (s_2.1,w64 (s_1.2.1+(1:Int)),())))) (need (((0:Nat)+s_1.1.length).ble s_1.1.length&&true) (need (((0:Nat)+s_1.1.length).ble s_1.1.length&&true&&true) (need (((0:Nat)+s_1.1.length).ble s_1.1.length&&true&&true) (ret (Sum.inr (Se.mk s.conf s.nodes s.apps s.conts (@aH Sl (0:Nat) ((0:Nat)+s_1.1.length) s_1.1) s.plans s.now s.epoch s.seq,()))))))
theorem qVq(s:Se)(node:Int)(r:(Se×Unit)):(tree hd0 qJQ qJR 150 [.rcd 39,.int .i64] [.rcd 39] (s,node,())).G r=(qEf s node).G r:=by kernel_rfl
def qRX(id:Nat)(_st:St aC.T):Option (List Ld):=match id with
 | 2=>some ([.slot 6 (.int .i64)])
 | _=>none
def qJS(s:Se)(node:Int):DT (Sl×Bool×Unit) :=
 loop ((0:Int),()) fun(s_1:Int×Unit)=>br (decide (s_1.1<(↑s.slots.length:Int))) (need (ixB s_1.1 (↑s.slots.length:Int)) (br ((s.slots.getD (Int.toNat s_1.1) dSl).node==node) (need (ixB s_1.1 (↑s.slots.length:Int)) (ret (Sum.inr (s.slots.getD (Int.toNat s_1.1) dSl,true,())))) (ret (Sum.inl (w64 (s_1.1+(1:Int)),()))))) (ret (Sum.inr (dSl,false,())))
theorem zDf(s:Se)(node:Int)(r:(Sl×Bool×Unit)):(tree hd0 qRX noL 279 [.rcd 39,.int .i64] [.rcd 85,.bool] (s,node,())).G r=(qJS s node).G r:=by kernel_rfl
def qNf(id:Nat)(_st:St aC.T):Option (List Ld):=match id with
 | 2=>some ([.slot 7 (.int .i64)])
 | _=>none
def qG0(s:Se)(app:Int)(prio:Int):DT (Bool×Unit) :=
 loop ((0:Int),()) fun(s_1:Int×Unit)=>br (decide (s_1.1<(↑s.slots.length:Int))) (need (ixB s_1.1 (↑s.slots.length:Int)) (br ((s.slots.getD (Int.toNat s_1.1) dSl).app==app) (need (ixB s_1.1 (↑s.slots.length:Int)) (br ((s.slots.getD (Int.toNat s_1.1) dSl).prio==prio) (ret (Sum.inr (true,()))) (ret (Sum.inl (w64 (s_1.1+(1:Int)),()))))) (ret (Sum.inl (w64 (s_1.1+(1:Int)),()))))) (ret (Sum.inr (false,())))
theorem qZW(s:Se)(app:Int)(prio:Int)(r:(Bool×Unit)):(tree hd0 qNf noL 396 [.rcd 39,.int .i64,.int .i64] [.bool] (s,app,prio,())).G r=(qG0 s app prio).G r:=by kernel_rfl
def qRY(id:Nat)(_st:St aC.T):Option (List Ld):=match id with
 | 2=>some ([.slot 5 (.int .i64)])
 | _=>none
def qRZ(id:Nat)(st:St aC.T):Option (List Ld):=match id with
 | 4=>some ([.slot 5 (.int .i64)])
 | 5=>some ([aY st 6 85 false])
 | 6=>some ([aY st 6 85 false])
 | _=>none
def qJT(s:Se)(x:Sl):DT (Se×Unit) :=
 (loop ((0:Int),()) fun(s_1:Int×Unit)=>br (decide (s_1.1<(↑s.slots.length:Int))) (need (ixB s_1.1 (↑s.slots.length:Int)) (br (decide ((s.slots.getD (Int.toNat s_1.1) dSl).node<x.node)) (ret (Sum.inl (w64 (s_1.1+(1:Int)),()))) (ret (Sum.inr (Sum.inl (s_1.1,())))))) (ret (Sum.inr (Sum.inl (s_1.1,()))))).join fun(s_1:Int×Unit)=>(need (decide ((0:Int)≤s_1.1)&&decide (s_1.1≤(↑s.slots.length:Int))&&true&&true) (need (aX ((0:Nat)+List.length (@aH Sl (0:Nat) (Int.toNat s_1.1) s.slots)) (24:Nat)&&true) (need (((0:Nat)+List.length (@aH Sl (0:Nat) (Int.toNat s_1.1) s.slots)).beq ([] ++ @aH Sl (0:Nat) (Int.toNat s_1.1) s.slots).length) (ret (Sum.inl ([] ++ @aH Sl (0:Nat) (Int.toNat s_1.1) s.slots,())))))).join fun(s_2:List Sl×Unit)=>(need (((0:Nat)+s_2.1.length).beq s_2.1.length) (need (aX (s_2.1.length+(1:Nat)) (24:Nat)&&((0:Nat)+s_2.1.length).ble s_2.1.length) (need ((s_2.1.length+(1:Nat)).beq (@aR Sl (0:Nat) s_2.1.length s_2.1++[x]).length) (ret (Sum.inl (@aR Sl (0:Nat) s_2.1.length s_2.1++[x],())))))).join fun(s_3:List Sl×Unit)=>need (slB s_1.1 (↑s.slots.length:Int) (↑s.slots.length:Int)) (need (((0:Nat)+s_3.1.length).beq s_3.1.length) (need (aX (s_3.1.length+List.length (@aH Sl (Int.toNat s_1.1) (↑s.slots.length:Int).toNat s.slots)) (24:Nat)&&((0:Nat)+s_3.1.length).ble s_3.1.length) (need (((0:Nat)+(s_3.1.length+List.length (@aH Sl (Int.toNat s_1.1) (↑s.slots.length:Int).toNat s.slots))).ble (@aR Sl (0:Nat) s_3.1.length s_3.1 ++ @aH Sl (Int.toNat s_1.1) (↑s.slots.length:Int).toNat s.slots).length&&true) (need (((0:Nat)+(s_3.1.length+List.length (@aH Sl (Int.toNat s_1.1) (↑s.slots.length:Int).toNat s.slots))).ble (@aR Sl (0:Nat) s_3.1.length s_3.1 ++ @aH Sl (Int.toNat s_1.1) (↑s.slots.length:Int).toNat s.slots).length&&true&&true) (need (((0:Nat)+(s_3.1.length+List.length (@aH
 Sl (Int.toNat s_1.1) (↑s.slots.length:Int).toNat s.slots))).ble (@aR Sl (0:Nat) s_3.1.length s_3.1 ++ @aH Sl (Int.toNat s_1.1) (↑s.slots.length:Int).toNat s.slots).length&&true&&true) (ret (Se.mk s.conf s.nodes s.apps s.conts (@aH Sl (0:Nat) ((0:Nat)+(s_3.1.length+List.length (@aH Sl (Int.toNat s_1.1) (↑s.slots.length:Int).toNat s.slots))) (@aR Sl (0:Nat) s_3.1.length s_3.1 ++ @aH Sl (Int.toNat s_1.1) (↑s.slots.length:Int).toNat s.slots)) s.plans s.now s.epoch s.seq,())))))))
theorem zDg(s:Se)(x:Sl)(r:(Se×Unit)):(tree hd0 qRY qRZ 397 [.rcd 39,.rcd 85] [.rcd 39] (s,x,())).G r=(qJT s x).G r:=by kernel_rfl
def zDh(id:Nat)(st:St aC.T):Option (List Ld):=match id with
 | 3=>some ([.slot 8 (.int .i64)]++bK st 7 [.rcd 27])
 | _=>none
def zDi(id:Nat)(st:St aC.T):Option (List Ld):=match id with
 | 4=>some (bK st 7 [.rcd 27])
 | _=>none
def qVr(l:List Pn)(label:Int)(t:Int):DT (Vec×Unit) :=
 loop ((0:Int),(gG,()),()) fun(s:Int×(Vec×Unit)×Unit)=>br (decide (s.1<(↑l.length:Int))) ((need (ixB s.1 (↑l.length:Int)) (br ((l.getD (Int.toNat s.1) dPn).label==label) (need (ixB s.1 (↑l.length:Int)) (br (decide ((l.getD (Int.toNat s.1) dPn).start≤t)) (need (ixB s.1 (↑l.length:Int)) (br (decide (t<(l.getD (Int.toNat s.1) dPn).stop)) (need (ixB s.1 (↑l.length:Int)) (ret (Sum.inl ((Vec.mk (w64 (s.2.1.1.mem+(l.getD (Int.toNat s.1) dPn).need.mem)) (w64 (s.2.1.1.cores+(l.getD (Int.toNat s.1) dPn).need.cores)),()),())))) (ret (Sum.inl ((s.2.1.1,()),()))))) (ret (Sum.inl ((s.2.1.1,()),()))))) (ret (Sum.inl ((s.2.1.1,()),()))))).join fun(s_1:(Vec×Unit)×Unit)=>ret (Sum.inl (w64 (s.1+(1:Int)),(s_1.1.1,()),()))) (ret (Sum.inr (s.2.1.1,())))
theorem zJ4(l:List Pn)(label:Int)(t:Int)(r:(Vec×Unit)):(tree hd0 zDh zDi 292 [.dat 59,.int .i64,.int .i64] [.rcd 27] (l,label,t,())).G r=(qVr l label t).G r:=by kernel_rfl
def zDj(id:Nat)(_st:St aC.T):Option (List Ld):=match id with
 | 2=>some ([.slot 5 (.int .i64)])
 | _=>none
def qVs(l:List Int)(n:Int):DT (Bool×Unit) :=
 loop ((0:Int),()) fun(s:Int×Unit)=>br (decide (s.1<(↑l.length:Int))) (need (ixB s.1 (↑l.length:Int)) (br (l.getD (Int.toNat s.1) (0:Int)==n) (ret (Sum.inr (true,()))) (ret (Sum.inl (w64 (s.1+(1:Int)),()))))) (ret (Sum.inr (false,())))
theorem zJ5(l:List Int)(n:Int)(r:(Bool×Unit)):(tree hd0 zDj noL 340 [.dat 3,.int .i64] [.bool] (l,n,())).G r=(qVs l n).G r:=by kernel_rfl
def zDk(id:Nat)(st:St aC.T):Option (List Ld):=match id with
 | 3=>some ([aY st 5 3 false]++[.slot 6 (.int .i64)])
 | _=>none
def zDl(id:Nat)(st:St aC.T):Option (List Ld):=match id with
 | 4=>some ([aY st 5 3 false])
 | _=>none
def qVt(s:Se)(node:Int):DT (List Int×Unit) :=
 loop ([],(0:Int),()) fun(s_1:List Int×Int×Unit)=>br (decide (s_1.2.1<(↑s.conts.length:Int))) ((need (ixB s_1.2.1 (↑s.conts.length:Int)) (br ((s.conts.getD (Int.toNat s_1.2.1) dCt).node==node) (need (ixB s_1.2.1 (↑s.conts.length:Int)) (need (((0:Nat)+s_1.1.length).beq s_1.1.length) (need (aX (s_1.1.length+(1:Nat)) (8:Nat)&&((0:Nat)+s_1.1.length).ble s_1.1.length) (need ((s_1.1.length+(1:Nat)).beq (@aR Int (0:Nat) s_1.1.length s_1.1++[(s.conts.getD (Int.toNat s_1.2.1) dCt).id]).length) (ret (Sum.inl (@aR Int (0:Nat) s_1.1.length s_1.1++[(s.conts.getD (Int.toNat s_1.2.1) dCt).id],()))))))) (need (s_1.1.length.beq s_1.1.length) (ret (Sum.inl (s_1.1,())))))).join fun(s_2:List Int×Unit)=>need (s_2.1.length.beq s_2.1.length) (ret (Sum.inl (s_2.1,w64 (s_1.2.1+(1:Int)),())))) (need (((0:Nat)+s_1.1.length).ble s_1.1.length) (ret (Sum.inr (@aH Int (0:Nat) ((0:Nat)+s_1.1.length) s_1.1,()))))
theorem zJ6(s:Se)(node:Int)(r:(List Int×Unit)):(tree hd0 zDk zDl 135 [.rcd 39,.int .i64] [.dat 3] (s,node,())).G r=(qVt s node).G r:=by kernel_rfl
def qH4(id:Nat)(st:St aC.T):Option (List Ld):=match id with
 | 3=>some ([aY st 5 3 false]++[.slot 6 (.int .i64)])
 | _=>none
def qH5(id:Nat)(st:St aC.T):Option (List Ld):=match id with
 | 4=>some ([aY st 5 3 false])
 | _=>none
def qB9(s:Se)(app:Int):DT (List Int×Unit) :=
 loop ([],(0:Int),()) fun(s_1:List Int×Int×Unit)=>br (decide (s_1.2.1<(↑s.conts.length:Int))) ((need (ixB s_1.2.1 (↑s.conts.length:Int)) (br ((s.conts.getD (Int.toNat s_1.2.1) dCt).app==app) (need (ixB s_1.2.1 (↑s.conts.length:Int)) (br ((s.conts.getD (Int.toNat s_1.2.1) dCt).notice != (0:Int)) (need (ixB s_1.2.1 (↑s.conts.length:Int)) (need (((0:Nat)+s_1.1.length).beq s_1.1.length) (need (aX (s_1.1.length+(1:Nat)) (8:Nat)&&((0:Nat)+s_1.1.length).ble s_1.1.length) (need ((s_1.1.length+(1:Nat)).beq (@aR Int (0:Nat) s_1.1.length s_1.1++[(s.conts.getD (Int.toNat s_1.2.1) dCt).id]).length) (ret (Sum.inl (@aR Int (0:Nat) s_1.1.length s_1.1++[(s.conts.getD (Int.toNat s_1.2.1) dCt).id],()))))))) (need (s_1.1.length.beq s_1.1.length) (ret (Sum.inl (s_1.1,())))))) (need (s_1.1.length.beq s_1.1.length) (ret (Sum.inl (s_1.1,())))))).join fun(s_2:List Int×Unit)=>need (s_2.1.length.beq s_2.1.length) (ret (Sum.inl (s_2.1,w64 (s_1.2.1+(1:Int)),())))) (need (((0:Nat)+s_1.1.length).ble s_1.1.length) (ret (Sum.inr (@aH Int (0:Nat) ((0:Nat)+s_1.1.length) s_1.1,()))))
theorem qSa(s:Se)(app:Int)(r:(List Int×Unit)):(tree hd0 qH4 qH5 144 [.rcd 39,.int .i64] [.dat 3] (s,app,())).G r=(qB9 s app).G r:=by kernel_rfl
def qSb(id:Nat)(_st:St aC.T):Option (List Ld):=match id with
 | 2=>some ([.slot 5 (.int .i64)])
 | _=>none
def qJU(s:Se)(app:Int):DT (Int×Unit) :=
 loop ((0:Int),()) fun(s_1:Int×Unit)=>br (decide (s_1.1<(↑s.conts.length:Int))) (need (ixB s_1.1 (↑s.conts.length:Int)) (br ((s.conts.getD (Int.toNat s_1.1) dCt).app==app) (need (ixB s_1.1 (↑s.conts.length:Int)) (br (s.conts.getD (Int.toNat s_1.1) dCt).master (need (ixB s_1.1 (↑s.conts.length:Int)) (ret (Sum.inr ((s.conts.getD (Int.toNat s_1.1) dCt).id,())))) (ret (Sum.inl (w64 (s_1.1+(1:Int)),()))))) (ret (Sum.inl (w64 (s_1.1+(1:Int)),()))))) (ret (Sum.inr ((-1:Int),())))
theorem zDm(s:Se)(app:Int)(r:(Int×Unit)):(tree hd0 qSb noL 153 [.rcd 39,.int .i64] [.int .i64] (s,app,())).G r=(qJU s app).G r:=by kernel_rfl
def qH6(id:Nat)(_st:St aC.T):Option (List Ld):=match id with
 | 3=>some ([.slot 7 (.int .i64)]++[.slot 6 (.int .i64)]++[.slot 8 (.int .i64)])
 | _=>none
def qH7(id:Nat)(_st:St aC.T):Option (List Ld):=match id with
 | 4=>some ([.slot 7 (.int .i64)]++[.slot 6 (.int .i64)])
 | _=>none
def qBA(s:Se)(app:Int):DT (Int×Int×Unit) :=
 loop ((0:Int),(0:Int),(0:Int),()) fun(s_1:Int×Int×Int×Unit)=>br (decide (s_1.2.2.1<(↑s.conts.length:Int))) ((need (ixB (s_1.2.2.1) (↑s.conts.length:Int)) (br ((s.conts.getD (Int.toNat (s_1.2.2.1)) dCt).app==app) (need (ixB (s_1.2.2.1) (↑s.conts.length:Int)) (br (s.conts.getD (Int.toNat (s_1.2.2.1)) dCt).master (ret (Sum.inl (w64 (s_1.1+(1:Int)),w64 (s_1.2.1+(1:Int)),()))) (ret (Sum.inl (w64 (s_1.1+(1:Int)),s_1.2.1,()))))) (ret (Sum.inl (s_1.1,s_1.2.1,()))))).join fun(s:Int×Int×Unit)=>ret (Sum.inl (s.1,s.2.1,w64 (s_1.2.2.1+(1:Int)),()))) (ret (Sum.inr (s_1.2.1,s_1.1,())))
theorem qSc(s:Se)(app:Int)(r:(Int×Int×Unit)):(tree hd0 qH6 qH7 50 [.rcd 39,.int .i64] [.int .i64,.int .i64] (s,app,())).G r=(qBA s app).G r:=by kernel_rfl
def qSd(id:Nat)(_st:St aC.T):Option (List Ld):=match id with
 | 4=>some ([.slot 5 (.int .i64)])
 | _=>none
def qJV(a:List Int)(b:List Int):DT (Bool×Unit) :=
 br ((↑a.length:Int) != (↑b.length:Int)) (ret (false,())) (loop ((0:Int),()) fun(s:Int×Unit)=>br (decide (s.1<(↑a.length:Int))) (need (ixB s.1 (↑a.length:Int)) (need (ixB s.1 (↑b.length:Int)) (br (a.getD (Int.toNat s.1) (0:Int) != b.getD (Int.toNat s.1) (0:Int)) (ret (Sum.inr (false,()))) (ret (Sum.inl (w64 (s.1+(1:Int)),())))))) (ret (Sum.inr (true,()))))
theorem zDn(a:List Int)(b:List Int)(r:(Bool×Unit)):(tree hd0 qSd noL 111 [.dat 3,.dat 3] [.bool] (a,b,())).G r=(qJV a b).G r:=by kernel_rfl
end Go.Proofs.YtehpnjmgjmkjaaaGreatDoor
