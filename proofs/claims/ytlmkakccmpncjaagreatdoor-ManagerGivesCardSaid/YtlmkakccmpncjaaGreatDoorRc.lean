/- Part of the proof: texts Re Rf Rg Rh. No conditions. -/
import Derived.Test.YtlmkakccmpncjaaGreatDoorRb
set_option linter.all false
noncomputable section
namespace Go.Proofs.YtlmkakccmpncjaaGreatDoor
open Sum
open Go Go.W Go.Proofs
set_option maxRecDepth 100000
def qBQ{α:Type}(key:α→Int)(x:α):List α→List α
 | []=>[]
 | a::r=>bif key a==key x then r else a::r
def qAM{α:Type}(key:α→Int)(x:α)(l:List α):List α :=
 let k:=(l.takeWhile fun a=>decide (key a<key x)).length
 (l.take k++[x])++qBQ key x (l.drop k)
def qHg{α:Type}(key:α→Int)(x:α)(l:List α):List α :=
 let k:=(l.takeWhile fun a=>decide (key a<key x)).length
 (l.take k++[x])++l.drop k
def qAN(s:Se)(n:Nd):Se:={ s with nodes:=qAM (·.id) n s.nodes }
def dW(s:Se)(x:Ap):Se:={ s with apps:=qAM (·.id) x s.apps }
def qE0(s:Se)(x:Sl):Se:={ s with slots:=qHg (·.node) x s.slots }
def fB(l:List Int)(n:Int):List Int×Bool:=let v:=l.filter fun a=>a != n;(v,decide ((v.length:Int)<l.length))
def dP(s:Se)(node:Int):Se:={ s with slots:=s.slots.filter fun a=>a.node != node }
def gD(s:Se)(node:Int):Sl×Bool:=findD dSl (fun a=>a.node==node) s.slots
def qAO(s:Se)(app prio:Int):Bool:=s.slots.any fun a=>a.app==app&&a.prio==prio
def qMe(l:List Pn)(label t:Int):Vec:=l.foldl (fun v a=>bif a.label==label&&decide (a.start≤t)&&decide (t<a.stop) then fQ v a.need else v) gQ
def uV(l:List Int)(n:Int):Bool:=l.any fun a=>a==n
def qHh(s:Se)(node:Int):List Int:=s.conts.filterMap fun a=>bif a.node==node then some a.id else none
def vM(s:Se)(app:Int):List Int:=s.conts.filterMap fun a=>bif a.app==app&&a.notice != 0 then some a.id else none
def qKm(s:Se)(app:Int):Int:=match s.conts.find? fun a=>a.app==app&&a.master with | some a=>a.id | none=>-1
theorem qBR{α ρ:Type}(p:α→Bool)(g:Bool→ρ):∀l:List α,scan (fun(_:Unit) a=>bif p a then .inr (g true) else .inl ()) (fun _=>g false) l ()=g (l.any p)
 | []=>rfl
 | a::l=>by
  simp only[scan,List.any]
  cases p a with
  | true=>rfl
  | false=>simpa using qBR p g l
theorem zEG{s:Se}(node:Int)(h:dH s):(qKj s node).G ((gD s node).1,(gD s node).2,()):=by
 unfold qKj
 refine iU s.slots dSl (fun i (_:Unit)=>(i,())) (fun _ a=>bif a.node==node then .inr (a,true,()) else .inl ()) (fun _=>(dSl,false,())) (fun _ _=>True) (fun i b hi _=>?_) (fun b _=>?_) (b0:=()) trivial (fD _ (fun a b=>(a,b,())) dSl _)
 ·have h1:=aD hi h.slots
  cases hc0:(s.slots.getD i dSl).node==node<;>simp_all
 ·simp
theorem zAD{s:Se}(app prio:Int)(h:dH s):(qHf s app prio).G (qAO s app prio,()):=by
 unfold qHf
 refine iU s.slots dSl (fun i (_:Unit)=>(i,())) (fun _ a=>bif a.app==app&&a.prio==prio then .inr (true,()) else .inl ()) (fun _=>(false,())) (fun _ _=>True) (fun i b hi _=>?_) (fun b _=>?_) (b0:=()) trivial ?_
 ·have h1:=aD hi h.slots
  cases hc0:(s.slots.getD i dSl).app==app<;>cases hc1:(s.slots.getD i dSl).prio==prio<;>simp_all
 ·simp
 ·exact qBR _ (fun b=>(b,())) _
theorem zM6{l:List Int}(n:Int)(h:l.length≤1000000000):(qVi l n).G (uV l n,()):=by
 unfold qVi
 refine iU l 0 (fun i (_:Unit)=>(i,())) (fun _ a=>bif a==n then .inr (true,()) else .inl ()) (fun _=>(false,())) (fun _ _=>True) (fun i b hi _=>?_) (fun b _=>?_) (b0:=()) trivial ?_
 ·have h1:=aD hi h
  cases hc0:l.getD i 0==n<;>simp_all
 ·simp
 ·exact qBR _ (fun b=>(b,())) _
theorem zEH{s:Se}(app:Int)(h:dH s):(qKl s app).G (qKm s app,()):=by
 unfold qKl
 refine iU s.conts dCt (fun i (_:Unit)=>(i,())) (fun _ a=>bif a.app==app&&a.master then .inr (a.id,()) else .inl ()) (fun _=>(-1,())) (fun _ _=>True) (fun i b hi _=>?_) (fun b _=>?_) (b0:=()) trivial ?_
 ·have h1:=aD hi h.conts
  cases hc0:(s.conts.getD i dCt).app==app<;>cases hc1:(s.conts.getD i dCt).master<;>simp_all
 ·simp
 ·rw[qHc (fun a:Ct=>a.app==app&&a.master) (fun a=>(a.id,())) (-1,())]
  unfold qKm
  cases s.conts.find? fun a=>a.app==app&&a.master<;>rfl
theorem zM7{l:List Pn}(label t:Int)(h:l.length≤1000000000):(qVh l label t).G (qMe l label t,()):=by
 unfold qVh
 refine iU l dPn (fun i (v:Vec)=>(i,(v,()),())) (fun v a=>.inl (bif a.label==label&&decide (a.start≤t)&&decide (t<a.stop) then fQ v a.need else v)) (fun v=>(v,())) (fun _ _=>True) (fun i b hi _=>?_) (fun b _=>?_) (b0:=gQ) trivial (bM (fin:=fun(v:Vec)=>(v,())) _ _ _)
 ·have h1:=aD hi h
  cases hc0:(l.getD i dPn).label==label<;>cases hc1:decide ((l.getD i dPn).start≤t)<;>cases hc2:decide (t<(l.getD i dPn).stop)<;>simp_all [fQ]<;>(intros;omega)
 ·simp
theorem zM8{s:Se}(node:Int)(h:dH s):(qVj s node).G (qHh s node,()):=by
 unfold qVj
 refine iU s.conts dCt (fun i (v:List Int)=>(v,i,())) (fun v a=>.inl (sW v (bif a.node==node then some a.id else none))) (fun v=>(v,())) (fun i b=>b.length≤i) (fun i b hi hI=>?_) (fun b hI=>?_) (b0:=[]) (cz _) ?_
 ·have h1:=aD hi h.conts
  have h2:=h.conts
  cases hc0:(s.conts.getD i dCt).node==node<;>simp_all [sW]<;>omega
 ·simp[aO]
 ·refine(bM (fun v a=>sW v (bif a.node==node then some a.id else none)) (fun v=>(v,())) s.conts []).trans ?_
  rw[fold_filterMap];rfl
theorem qRu{s:Se}(app:Int)(h:dH s):(qBP s app).G (vM s app,()):=by
 unfold qBP
 refine iU s.conts dCt (fun i (v:List Int)=>(v,i,())) (fun v a=>.inl (sW v (bif a.app==app&&a.notice != 0 then some a.id else none))) (fun v=>(v,())) (fun i b=>b.length≤i) (fun i b hi hI=>?_) (fun b hI=>?_) (b0:=[]) (cz _) ?_
 ·have h1:=aD hi h.conts
  have h2:=h.conts
  cases hc0:(s.conts.getD i dCt).app==app<;>cases hc1:(s.conts.getD i dCt).notice != 0<;>simp_all [sW]<;>omega
 ·simp[aO]
 ·refine(bM (fun v a=>sW v (bif a.app==app&&a.notice != 0 then some a.id else none)) (fun v=>(v,())) s.conts []).trans ?_
  rw[fold_filterMap];rfl
theorem qVk{s:Se}(node:Int)(h:dH s):(qEz s node).G (dP s node,()):=by
 unfold qEz
 refine iU s.slots dSl (fun i (v:List Sl)=>(v,i,())) (fun v a=>.inl (bif a.node != node then v++[a] else v)) (fun v=>({ s with slots:=v },())) (fun i b=>b.length≤i) (fun i b hi hI=>?_) (fun b hI=>?_) (b0:=[]) (cz _) ?_
 ·have h1:=aD hi h.slots
  have h2:=h.slots
  cases hc0:(s.slots.getD i dSl).node != node<;>simp_all<;>omega
 ·simp[aO]
 ·refine(bM (fun v a=>bif a.node != node then v++[a] else v) (fun v=>({ s with slots:=v },())) s.slots []).trans ?_
  rw[fold_filter];rfl
theorem qRv{l:List Int}(n:Int)(h:l.length≤1000000000):(qBO l n).G ((fB l n).1,(fB l n).2,()):=by
 unfold qBO
 refine iU l 0 (fun i (v:List Int)=>(v,i,())) (fun v a=>.inl (bif a != n then v++[a] else v)) (fun v=>(v,decide ((v.length:Int)<l.length),())) (fun i b=>b.length≤i) (fun i b hi hI=>?_) (fun b hI=>?_) (b0:=[]) (cz _) ?_
 ·have h1:=aD hi h
  have h2:=h
  cases hc0:l.getD i 0 != n<;>simp_all<;>omega
 ·simp[aO]
 ·refine(bM (fun v a=>bif a != n then v++[a] else v) (fun v=>(v,decide ((v.length:Int)<l.length),())) l []).trans ?_
  rw[fold_filter];rfl
theorem zEI{s:Se}(x:Sl)(h:dH s):(qKk s x).G (qE0 s x,()):=by
 unfold qKk
 have hn:=h.slots
 have hk:(s.slots.takeWhile fun a=>decide (a.node<x.node)).length≤s.slots.length:=(ow _).length_le
 refine aN (((s.slots.takeWhile fun a=>decide (a.node<x.node)).length:Nat),()) (qPc s.slots dSl (fun i (_:Unit)=>(i,())) (fun i _ a=>bif decide (a.node<x.node) then .inl () else .inr (inl ((i:Int),()))) (fun i _=>inl ((i:Int),())) (fun _ _=>True) (fun i b hi _=>?_) (fun b _=>?_) (b0:=()) trivial ?_) ?_
 ·have h1:=aD hi hn
  cases hc:decide ((s.slots.getD i dSl).node<x.node)<;>simp_all<;>(intros;omega)
 ·simp
 ·rw[qBM (fun a:Sl=>decide (a.node<x.node)) (fun i=>inl ((i:Int),()))];simp
 generalize hkk:(s.slots.takeWhile fun a=>decide (a.node<x.node)).length=k at hk ⊢
 have hlen:(s.slots.take k).length=k:=by rw[ed];omega
 refine aN (s.slots.take k,()) (by simp;omega) ?_
 refine aN (s.slots.take k++[x],()) ?_ ?_
 ·generalize s.slots.take k=xs at hlen ⊢
  simp
  omega
 simp only[qAJ,qHU,qI7]
 have e:(bF 0 (s.slots.take k++[x]).length (s.slots.take k++[x])++aO (Int.toNat (k:Int)) (s.slots.length:Int).toNat s.slots)=(s.slots.take k++[x])++s.slots.drop k:=by
  rw[pJ,di,di,wG]
 simp only[e]
 unfold qE0 qHg
 simp only[hkk]
 have hl2:(s.slots.take k++[x]).length=k+1:=by rw[dh,hlen];rfl
 generalize s.slots.take k++[x]=xs at hl2 ⊢
 simp[aO]
 exact⟨hk,⟨by omega,by omega⟩,kz (by simp)⟩
theorem zM9{s:Se}(x:Nd)(h:dH s):(qVd s x).G (qAN s x,()):=by
 unfold qVd
 have hn:=h.nodes
 have hk:(s.nodes.takeWhile fun a=>decide (a.id<x.id)).length≤s.nodes.length:=(ow _).length_le
 refine aN (((s.nodes.takeWhile fun a=>decide (a.id<x.id)).length:Nat),()) (qPc s.nodes dNd (fun i (_:Unit)=>(i,())) (fun i _ a=>bif decide (a.id<x.id) then .inl () else .inr (inl ((i:Int),()))) (fun i _=>inl ((i:Int),())) (fun _ _=>True) (fun i b hi _=>?_) (fun b _=>?_) (b0:=()) trivial ?_) ?_
 ·have h1:=aD hi hn
  cases hc:decide ((s.nodes.getD i dNd).id<x.id)<;>simp_all<;>(intros;omega)
 ·simp
 ·rw[qBM (fun a:Nd=>decide (a.id<x.id)) (fun i=>inl ((i:Int),()))];simp
 generalize hkk:(s.nodes.takeWhile fun a=>decide (a.id<x.id)).length=k at hk ⊢
 have hlen:(s.nodes.take k).length=k:=by rw[ed];omega
 refine aN (s.nodes.take k,()) (by simp;omega) ?_
 refine aN (s.nodes.take k++[x],()) ?_ ?_
 ·generalize s.nodes.take k=xs at hlen ⊢
  simp
  omega
 have hkk':∃k':Nat,k'≤s.nodes.length∧s.nodes.drop k' = qBQ (·.id) x (s.nodes.drop k) ∧
   (DT.br (decide ((k:Int)<(s.nodes.length:Int))) (DT.need (ixB (k:Int) (s.nodes.length:Int)) (DT.br ((s.nodes.getD (Int.toNat (k:Int)) dNd).id==x.id) (DT.ret (inl (w64 ((k:Int)+1),()))) (DT.ret (inl ((k:Int),()))))) (DT.ret (inl ((k:Int),())))).G (inl ((k':Int),()):(Int×Unit) ⊕ (Se×Unit)):=by
  rcases iw k s.nodes.length with hlt | hge
  ·have hd:s.nodes.drop k=s.nodes.getD k dNd::s.nodes.drop (k+1):=by
    rw[kv hlt];simp[List.getD,hlt]
   have h1:=aD hlt hn
   cases hc:(s.nodes.getD k dNd).id==x.id with
   | true=>exact⟨k+1,hlt,by rw[hd];show _=cond _ _ _;rw[hc];rfl,by simp_all⟩
   | false=>exact⟨k,hk,by rw[hd];show _=cond _ _ _;rw[hc];rfl,by simp_all⟩
  ·have hkl:k=s.nodes.length:=by omega
   refine⟨k,hk,by rw[hkl];simp[qBQ],by simp_all⟩
 obtain⟨k',hk',hdr,hG⟩:=hkk'
 refine aN ((k':Int),()) hG ?_
 simp only[qAJ,qHU,qI7]
 have e:(bF 0 (s.nodes.take k++[x]).length (s.nodes.take k++[x])++aO (Int.toNat (k':Int)) (s.nodes.length:Int).toNat s.nodes)=(s.nodes.take k++[x])++s.nodes.drop k':=by
  rw[pJ,di,di,wG]
 simp only[e]
 unfold qAN qAM
 simp only[hkk]
 have hl2:(s.nodes.take k++[x]).length=k+1:=by rw[dh,hlen];rfl
 generalize s.nodes.take k++[x]=xs at hl2 ⊢
 simp[aO]
 exact⟨hk',⟨by omega,by omega⟩,(kz (by simp)).trans (congrArg (xs ++ ·) hdr)⟩
theorem zJe{s:Se}(x:Ap)(h:dH s):(qPi s x).G (dW s x,()):=by
 unfold qPi
 have hn:=h.apps
 have hk:(s.apps.takeWhile fun a=>decide (a.id<x.id)).length≤s.apps.length:=(ow _).length_le
 refine aN (((s.apps.takeWhile fun a=>decide (a.id<x.id)).length:Nat),()) (qPc s.apps dAp (fun i (_:Unit)=>(i,())) (fun i _ a=>bif decide (a.id<x.id) then .inl () else .inr (inl ((i:Int),()))) (fun i _=>inl ((i:Int),())) (fun _ _=>True) (fun i b hi _=>?_) (fun b _=>?_) (b0:=()) trivial ?_) ?_
 ·have h1:=aD hi hn
  cases hc:decide ((s.apps.getD i dAp).id<x.id)<;>simp_all<;>(intros;omega)
 ·simp
 ·rw[qBM (fun a:Ap=>decide (a.id<x.id)) (fun i=>inl ((i:Int),()))];simp
 generalize hkk:(s.apps.takeWhile fun a=>decide (a.id<x.id)).length=k at hk ⊢
 have hlen:(s.apps.take k).length=k:=by rw[ed];omega
 refine aN (s.apps.take k,()) (by simp;omega) ?_
 refine aN (s.apps.take k++[x],()) ?_ ?_
 ·generalize s.apps.take k=xs at hlen ⊢
  simp
  omega
 have hkk':∃k':Nat,k'≤s.apps.length∧s.apps.drop k' = qBQ (·.id) x (s.apps.drop k) ∧
   (DT.br (decide ((k:Int)<(s.apps.length:Int))) (DT.need (ixB (k:Int) (s.apps.length:Int)) (DT.br ((s.apps.getD (Int.toNat (k:Int)) dAp).id==x.id) (DT.ret (inl (w64 ((k:Int)+1),()))) (DT.ret (inl ((k:Int),()))))) (DT.ret (inl ((k:Int),())))).G (inl ((k':Int),()):(Int×Unit) ⊕ (Se×Unit)):=by
  rcases iw k s.apps.length with hlt | hge
  ·have hd:s.apps.drop k=s.apps.getD k dAp::s.apps.drop (k+1):=by
    rw[kv hlt];simp[List.getD,hlt]
   have h1:=aD hlt hn
   cases hc:(s.apps.getD k dAp).id==x.id with
   | true=>exact⟨k+1,hlt,by rw[hd];show _=cond _ _ _;rw[hc];rfl,by simp_all⟩
   | false=>exact⟨k,hk,by rw[hd];show _=cond _ _ _;rw[hc];rfl,by simp_all⟩
  ·have hkl:k=s.apps.length:=by omega
   refine⟨k,hk,by rw[hkl];simp[qBQ],by simp_all⟩
 obtain⟨k',hk',hdr,hG⟩:=hkk'
 refine aN ((k':Int),()) hG ?_
 simp only[qAJ,qHU,qI7]
 have e:(bF 0 (s.apps.take k++[x]).length (s.apps.take k++[x])++aO (Int.toNat (k':Int)) (s.apps.length:Int).toNat s.apps)=(s.apps.take k++[x])++s.apps.drop k':=by
  rw[pJ,di,di,wG]
 simp only[e]
 unfold dW qAM
 simp only[hkk]
 have hl2:(s.apps.take k++[x]).length=k+1:=by rw[dh,hlen];rfl
 generalize s.apps.take k++[x]=xs at hl2 ⊢
 simp[aO]
 exact⟨hk',⟨by omega,by omega⟩,(kz (by simp)).trans (congrArg (xs ++ ·) hdr)⟩
def qHi:TB:=con [.rcd 37,.rcd 53] [.rcd 37] (fun a=>bN a.1) (fun a=>(shut qAN a.1 a.2.1,())) rfl
theorem qPj:aJ 114 qHi :=
 row_of eF (L:=zE2) (J:=zE3) (by kernel_rfl) rfl rfl fun a h=>Eq.mpr (zM1 a.1 a.2.1 _) (by simp only[aK];exact zM9 _ (aM.1 h))
def qDg:TB:=con [.rcd 37,.rcd 43] [.rcd 37] (fun a=>bN a.1) (fun a=>(shut dW a.1 a.2.1,())) rfl
theorem qIB:aJ 122 qDg :=
 row_of eF (L:=qXR) (J:=qXS) (by kernel_rfl) rfl rfl fun a h=>Eq.mpr (zJd a.1 a.2.1 _) (by simp only[aK];exact zJe _ (aM.1 h))
def zV:TB:=con [.rcd 37,.rcd 91] [.rcd 37] (fun a=>bN a.1) (fun a=>(shut qE0 a.1 a.2.1,())) rfl
theorem qF4:aJ 383 zV :=
 row_of eF (L:=qRq) (J:=qRr) (by kernel_rfl) rfl rfl fun a h=>Eq.mpr (zE9 a.1 a.2.1 _) (by simp only[aK];exact zEI _ (aM.1 h))
def rC:TB:=con [.rcd 37,.int .i64] [.rcd 37] (fun a=>bN a.1) (fun a=>(shut dP a.1 a.2.1,())) rfl
theorem qAP:aJ 131 rC :=
 row_of eF (L:=qKh) (J:=qKi) (by kernel_rfl) rfl rfl fun a h=>Eq.mpr (qVg a.1 a.2.1 _) (by simp only[aK];exact qVk _ (aM.1 h))
def zW:TB:=con [.rcd 37,.int .i64] [.rcd 91,.bool] (fun a=>bN a.1) (fun a=>((shut gD a.1 a.2.1).1,(shut gD a.1 a.2.1).2,())) rfl
theorem qF5:aJ 264 zW :=
 row_of eF (L:=qRp) (J:=noL) (by kernel_rfl) rfl rfl fun a h=>Eq.mpr (zE8 a.1 a.2.1 _) (by simp only[aK];exact zEG _ (aM.1 h))
def vN:TB:=con [.rcd 37,.int .i64,.int .i64] [.bool] (fun a=>bN a.1) (fun a=>(shut qAO a.1 a.2.1 a.2.2.1,())) rfl
theorem qDh:aJ 382 vN :=
 row_of eF (L:=qMQ) (J:=noL) (by kernel_rfl) rfl rfl fun a h=>Eq.mpr (zAC a.1 a.2.1 a.2.2.1 _) (by simp only[aK];exact zAD _ _ (aM.1 h))
def qHj:TB:=con [.rcd 37,.int .i64] [.dat 3] (fun a=>bN a.1) (fun a=>(shut qHh a.1 a.2.1,())) rfl
theorem qPk:aJ 115 qHj :=
 row_of eF (L:=zED) (J:=zEE) (by kernel_rfl) rfl rfl fun a h=>Eq.mpr (zM5 a.1 a.2.1 _) (by simp only[aK];exact zM8 _ (aM.1 h))
def oM:TB:=con [.rcd 37,.int .i64] [.dat 3] (fun a=>bN a.1) (fun a=>(shut vM a.1 a.2.1,())) rfl
theorem xO:aJ 125 oM :=
 row_of eF (L:=qHX) (J:=qHY) (by kernel_rfl) rfl rfl fun a h=>Eq.mpr (qRs a.1 a.2.1 _) (by simp only[aK];exact qRu _ (aM.1 h))
def zX:TB:=con [.rcd 37,.int .i64] [.int .i64] (fun a=>bN a.1) (fun a=>(shut qKm a.1 a.2.1,())) rfl
theorem qF6:aJ 134 zX :=
 row_of eF (L:=qRt) (J:=noL) (by kernel_rfl) rfl rfl fun a h=>Eq.mpr (zEF a.1 a.2.1 _) (by simp only[aK];exact zEH _ (aM.1 h))
def qHk:TB:=con [.dat 3,.int .i64] [.bool] (fun a=>sm (List.length a.1)) (fun a=>(shut uV a.1 a.2.1,())) rfl
theorem qPl:aJ 325 qHk :=
 row_of eF (L:=zEC) (J:=noL) (by kernel_rfl) rfl rfl fun a h=>Eq.mpr (zM4 a.1 a.2.1 _) (by simp only[aK];exact zM6 _ (eH.1 h))
def oN:TB:=con [.dat 3,.int .i64] [.dat 3,.bool] (fun a=>sm (List.length a.1)) (fun a=>((shut fB a.1 a.2.1).1,(shut fB a.1 a.2.1).2,())) rfl
theorem xP:aJ 128 oN :=
 row_of eF (L:=qHV) (J:=qHW) (by kernel_rfl) rfl rfl fun a h=>Eq.mpr (qRm a.1 a.2.1 _) (by simp only[aK];exact qRv _ (eH.1 h))
def qHl:TB:=con [.dat 55,.int .i64,.int .i64] [.rcd 40] (fun a=>sm (List.length a.1)) (fun a=>(shut qMe a.1 a.2.1 a.2.2.1,())) rfl
theorem qPm:aJ 277 qHl :=
 row_of eF (L:=zEA) (J:=zEB) (by kernel_rfl) rfl rfl fun a h=>Eq.mpr (zM3 a.1 a.2.1 a.2.2.1 _) (by simp only[aK];exact zM7 _ _ (eH.1 h))
def K1:Con aC.T:=fun f=>bV [(113,qDc),(375,qDd),(130,vL),(311,qHe),(387,qY),(138,zS),(378,qDf),(120,zT),(10,wH),(127,zU),(133,qZ),(114,qHi),(122,qDg),(383,zV),(131,rC),(264,zW),(382,vN),(115,qHj),(125,oM),(134,zX),(325,qHk),(128,oN),(277,qHl)] f
def hd1:Hd aC.T:=hdT aC Tryz.prog (fzC aC K1) (fun _=>false) 1000 5
def qBr(x:Ak)(v:List Ak×Bool)(a:Ak):List Ak×Bool :=
 (bif a.prio != x.prio then(bif !v.2&&decide (a.prio>x.prio) then v.1++[{ x with missed:=0 }] else v.1)++[a] else bif !v.2&&decide (a.prio>x.prio) then v.1++[{ x with missed:=0 }] else v.1,
  v.2||decide (a.prio>x.prio))
def qF7(l:List Ak)(x:Ak):List Ak×Int :=
 let v:=l.foldl (qBr x) ([],x.count==0)
 let out:=bif !v.2 then v.1++[{ x with missed:=0 }] else v.1
 bif decide ((out.length:Int)>8) then([],4) else(out,0)
theorem qKn{α β:Type}(P:Nat→β→Prop)(g:β→α→β)(hs:∀i b a,P i b→P (i+1) (g b a)):∀(l:List α) (i:Nat) (b:β),P i b→P (i+l.length) (l.foldl g b)
 | [],i,b,h=>h
 | a::l,i,b,h=>by
  have:= qKn P g hs l (i+1) (g b a) (hs i b a h)
  rw[List.foldl,dw,show i+(l.length+1)=i+1+l.length by omega]
  exact this
theorem qMR(x:Ak)(i:Nat)(v:List Ak×Bool)(a:Ak)(h:v.1.length≤2*i):(qBr x v a).1.length≤2*(i+1):=by
 unfold qBr
 cases a.prio != x.prio<;>cases (!v.2&&decide (a.prio>x.prio))<;>simp<;>omega
theorem zMA{l:List Ak}(x:Ak)(h:l.length≤1000000000):(qVe l x).G ((qF7 l x).1,(qF7 l x).2,()):=by
 unfold qVe
 have hb:=qKn (fun i (v:List Ak×Bool)=>v.1.length≤2*i) (qBr x) (qMR x) l 0 ([],x.count==0) (cz _)
 refine aN ((l.foldl (qBr x) ([],x.count==0)).1,(l.foldl (qBr x) ([],x.count==0)).2,()) (mR l dAk (fun i (v:List Ak×Bool)=>(v.1,v.2,i,())) (fun v a=>.inl (qBr x v a)) (fun v=>.inl (v.1,v.2,())) (fun i v=>v.1.length≤2*i) (fun i b hi hI=>⟨qMR x i b _ hI,?_⟩) (fun b hI=>?_) (b0:=([],x.count==0)) (cz _) (bM (fin:=fun(v:List Ak×Bool)=>inl (v.1,v.2,())) _ _ _)) ?_
 ·have h1:=aD hi h
  have hI:b.1.length≤2*i:=hI
  have hi1:ixB (i:Int) (l.length:Int)=true:=iT.2 ⟨by omega,by omega⟩
  have hi2:decide ((i:Int)<(l.length:Int))=true:=by simp;omega
  have hf1:aT (b.1.length+1) 64=true:=fZ.2 ⟨by omega,by omega⟩
  have hf2:aT (b.1.length+1+1) 64=true:=fZ.2 ⟨by omega,by omega⟩
  cases hc:b.2<;>cases hd:decide ((l.getD i dAk).prio>x.prio)<;>cases he:(l.getD i dAk).prio != x.prio<;>simp only[sS,hi1,hi2,hc,hd,he,hf1,hf2,h1,qBr]
 ·simp
 ·unfold qF7
  simp only[]
  generalize l.foldl (qBr x) ([],x.count==0)=v at hb ⊢
  have hb:v.1.length≤2*(0+l.length):=hb
  have hf1:aT (v.1.length+1) 64=true:=fZ.2 ⟨by omega,by omega⟩
  refine aF ?_
  have hs:∀m:List Ak,aO 0 m.length m=m:=fun m=>by rw[lV,iq]
  cases hv:v.2 with
  | true =>
   cases h8:decide ((v.1.length:Int)>8)<;>simp only[sS,hv,h8,hs,hf1]
  | false =>
   cases h8:decide (((v.1++[{ x with missed:=0 }]).length:Int)>8)<;>simp only[sS,hv,hs,hf1] at h8 ⊢<;>simp only[sS,h8]
def qHm(prio:Int)(v:Bool×List Ak)(a:Ak):Bool×List Ak :=
 bif a.prio==prio then(bif decide (w64 (a.count-1)≤0) then(true,v.2) else(true,v.2++[{ a with count:=w64 (a.count-1),missed:=0 }])) else(v.1,v.2++[a])
def qKo(l:List Ak)(prio:Int):List Ak×Bool:=let v:=l.foldl (qHm prio) (false,[]);(v.2,v.1)
theorem qKp(prio:Int)(i:Nat)(v:Bool×List Ak)(a:Ak)(h:v.2.length≤i):(qHm prio v a).2.length≤i+1:=by
 unfold qHm
 cases a.prio==prio<;>cases decide (w64 (a.count-1)≤0)<;>simp<;>omega
theorem zJf{l:List Ak}(prio:Int)(h:l.length≤1000000000):(qPh l prio).G ((qKo l prio).1,(qKo l prio).2,()):=by
 unfold qPh
 refine mR l dAk (fun i (v:Bool×List Ak)=>(v.1,v.2,i,())) (fun v a=>.inl (qHm prio v a)) (fun v=>(v.2,v.1,())) (fun i v=>v.2.length≤i) (fun i b hi hI=>⟨qKp prio i b _ hI,?_⟩) (fun b hI=>?_) (b0:=(false,[])) (cz _) (bM (fin:=fun(v:Bool×List Ak)=>(v.2,v.1,())) _ _ _)
 ·have h1:=aD hi h
  have hI:b.2.length≤i:=hI
  have hi1:ixB (i:Int) (l.length:Int)=true:=iT.2 ⟨by omega,by omega⟩
  have hi2:decide ((i:Int)<(l.length:Int))=true:=by simp;omega
  have hf1:aT (b.2.length+1) 64=true:=fZ.2 ⟨by omega,by omega⟩
  cases hc:(l.getD i dAk).prio==prio<;>cases hd:decide (w64 ((l.getD i dAk).count-1)≤0)<;>simp only[sS,hi1,hi2,hc,hd,hf1,h1,qHm]
 ·simp[aO]
def live(a:Ap):Bool:=a.state==1||a.state==2
def fC(v:Bool×List Ap)(a:Ap):Bool×List Ap:=bif !v.1&&!live a then(true,v.2) else(v.1,v.2++[a])
def jN(s:Se):Se:={ s with apps:=(s.apps.foldl fC (false,[])).2 }
theorem qMf(i:Nat)(v:Bool×List Ap)(a:Ap)(h:v.2.length≤i):(fC v a).2.length≤i+1:=by
 unfold fC
 cases !v.1&&!live a<;>simp<;>omega
theorem qVl{s:Se}(h:dH s):(qEy s).G (jN s,()):=by
 unfold qEy
 have hn:=h.apps
 refine mR s.apps dAp (fun i (v:Bool×List Ap)=>(v.1,v.2,i,())) (fun v a=>.inl (fC v a)) (fun v=>({ s with apps:=v.2 },())) (fun i v=>v.2.length≤i) (fun i b hi hI=>⟨qMf i b _ hI,?_⟩) (fun b hI=>?_) (b0:=(false,[])) (cz _) (bM (fin:=fun(v:Bool×List Ap)=>({ s with apps:=v.2 },())) _ _ _)
 ·have h1:=aD hi hn
  have hI:b.2.length≤i:=hI
  have hi1:ixB (i:Int) (s.apps.length:Int)=true:=iT.2 ⟨by omega,by omega⟩
  have hi2:decide ((i:Int)<(s.apps.length:Int))=true:=by simp;omega
  have hf1:aT (b.2.length+1) 200=true:=fZ.2 ⟨by omega,by omega⟩
  cases hc:b.1<;>cases hd:(s.apps.getD i dAp).state==1<;>cases he:(s.apps.getD i dAp).state==2<;>simp only[sS,hi1,hi2,hc,hd,he,hf1,h1,fC,live]
 ·simp[aO]
def rD(s:Se)(id:Int):Se×List Int:=({ s with conts:=s.conts.filter fun c=>!(c.app==id),slots:=s.slots.filter fun x=>x.app != id },s.conts.filterMap fun c=>bif c.app==id then some c.id else none)
theorem qRw(id:Int):∀(l:List Ct) (v:List Int×List Ct),l.foldl (fun v c=>bif c.app==id then(v.1++[c.id],v.2) else(v.1,v.2++[c])) v=(v.1++l.filterMap (fun c=>bif c.app==id then some c.id else none),v.2++l.filter fun c=>!(c.app==id))
 | [],v=>by simp
 | c::l,v=>by
  rw[List.foldl,qRw id l,u6,jq]
  cases c.app==id<;>simp
theorem zEJ{s:Se}(id:Int)(h:dH s):(qKf s id).G ((rD s id).1,(rD s id).2,()):=by
 unfold qKf
 have hn:=h.conts
 have hn2:=h.slots
 have hsub:∀{α:Type} (m:List α),aO 0 m.length m=m:=fun m=>by rw[lV,iq]
 refine aN (s.conts.filterMap (fun c=>bif c.app==id then some c.id else none),s.conts.filter (fun c=>!(c.app==id)),()) (mR s.conts dCt (fun i (v:List Int×List Ct)=>(v.1,v.2,i,())) (fun v c=>.inl (bif c.app==id then(v.1++[c.id],v.2) else(v.1,v.2++[c]))) (fun v=>.inl (v.1,v.2,())) (fun i v=>v.1.length≤i∧v.2.length≤i) (fun i b hi hI=>⟨?_,?_⟩) (fun b hI=>?_) (b0:=([],[])) ⟨cz _,cz _⟩ ?_) ?_
 ·obtain⟨hI1,hI2⟩:=hI
  cases (s.conts.getD i dCt).app==id<;>simp<;>omega
 ·obtain⟨hI1,hI2⟩:=hI
  have h1:=aD hi hn
  have hi1:ixB (i:Int) (s.conts.length:Int)=true:=iT.2 ⟨by omega,by omega⟩
  have hi2:decide ((i:Int)<(s.conts.length:Int))=true:=by simp;omega
  have hf1:aT (b.1.length+1) 8=true:=fZ.2 ⟨by omega,by omega⟩
  have hf2:aT (b.2.length+1) 72=true:=fZ.2 ⟨by omega,by omega⟩
  cases hc:(s.conts.getD i dCt).app==id<;>simp only[sS,hi1,hi2,hc,hf1,hf2,h1]
 ·simp
 ·refine(bM (fun v c=>bif c.app==id then(v.1++[c.id],v.2) else(v.1,v.2++[c])) (fun(v:List Int×List Ct)=>inl (v.1,v.2,())) s.conts ([],[])).trans ?_
  rw[qRw];simp
 ·refine mR s.slots dSl (fun i (v:List Sl)=>(v,i,())) (fun v a=>.inl (bif a.app != id then v++[a] else v)) (fun v=>({ s with conts:=s.conts.filter (fun c=>!(c.app==id)),slots:=v },s.conts.filterMap (fun c=>bif c.app==id then some c.id else none),())) (fun i b=>b.length≤i) (fun i b hi hI=>⟨?_,?_⟩) (fun b hI=>?_) (b0:=[]) (cz _) ?_
  ·have hI:b.length≤i:=hI
   cases (s.slots.getD i dSl).app != id<;>simp<;>omega
  ·have hI:b.length≤i:=hI
   have h1:=aD hi hn2
   have hi1:ixB (i:Int) (s.slots.length:Int)=true:=iT.2 ⟨by omega,by omega⟩
   have hi2:decide ((i:Int)<(s.slots.length:Int))=true:=by simp;omega
   have hf1:aT (b.length+1) 24=true:=fZ.2 ⟨by omega,by omega⟩
   cases hc:(s.slots.getD i dSl).app != id<;>simp only[sS,hi1,hi2,hc,hf1,h1]
  ·have hd:decide ((s.slots.length:Int)<(s.slots.length:Int))=false:=by simp
   simp only[sS,hd,hsub]
  ·refine(bM (fun v a=>bif a.app != id then v++[a] else v) (fun v=>({ s with conts:=s.conts.filter (fun c=>!(c.app==id)),slots:=v },s.conts.filterMap (fun c=>bif c.app==id then some c.id else none),())) s.slots []).trans ?_
   rw[fold_filter];rfl
theorem qRx{n:Nat}(h:n≤1000000001):w64 ((n:Int)-1)=(n:Int)-1:=by rw[dI]<;>omega
def qBs(b:UInt8):Bool:=!((b.toNat:Int) != 46)
def dY(p:B):Nat→Int
 | 0=>-1
 | n+1=>bif qBs (p.getD n 0) then(n:Int) else dY p n
theorem qE1(p:B):∀n,-1≤dY p n∧dY p n<n
 | 0=>⟨pq _,by simp[dY]⟩
 | n+1=>by
  have:= qE1 p n
  simp only[dY]
  cases qBs (p.getD n 0)<;>simp<;>omega
def eO(p:B):B:=bif decide (dY p p.length<0) then[] else p.take (dY p p.length).toNat
theorem zEK{p:B}(h:p.length≤1000000000):(qKg p).G (eO p,()):=by
 unfold qKg
 have hl:=qE1 p p.length
 refine aN (dY p p.length,()) (qX (fun s=>∃n:Nat,n≤p.length∧s=((n:Int)-1,())∧dY p n=dY p p.length) (fun s=>(s.1+1).toNat) ?_ ⟨p.length,df _,by rw[qRx (by omega)],rfl⟩) ?_
 ·rintro _ ⟨n,hn,rfl,hk⟩
  cases n with
  | zero =>
   right
   have h1:decide (((0:Nat):Int)-1≥0)=false:=by simp
   refine aV h1 ?_
   rw[qHU,←hk]
   rfl
  | succ n =>
   have e:(((n+1:Nat):Int)-1)=(n:Int):=by omega
   have h1:decide ((n:Int)≥0)=true:=by simp
   have h2:decide ((0:Int)≤(n:Int))=true:=by simp
   have h5:decide ((n:Int)<(p.length:Int))=true:=by simp;omega
   have h3:=qRx (n:=n) (by omega)
   simp only[dY] at hk
   rw[e]
   cases hd:qBs (p.getD n 0) with
   | true =>
    right
    have h4:(((p.getD n 0).toNat:Int) != 46)=false:=by unfold qBs at hd;simpa using hd
    rw[hd] at hk
    refine aF ?_
    simp only[sS,h1,h2,h5,h4,←hk]
   | false =>
    left
    have h4:(((p.getD n 0).toNat:Int) != 46)=true:=by unfold qBs at hd;simpa using hd
    rw[hd] at hk
    refine⟨((n:Int)-1,()),aF ?_,⟨n,by omega,rfl,hk⟩,by simp only[];omega⟩
    simp only[sS,h1,h2,h5,h3,h4]
 ·refine aF ?_
  unfold eO
  cases hc:decide (dY p p.length<0) with
  | true=>simp only[sS,hc]
  | false =>
   have h5:¬dY p p.length<0:=by simpa using hc
   have h2:(decide ((0:Int)≤dY p p.length)&&decide (dY p p.length≤(p.length:Int)))=true:=by simp;omega
   simp only[sS,hc,h2]
def wI:TB:=con [.str] [.str] (fun a=>sm (List.length a.1)) (fun a=>(shut eO a.1,())) rfl
theorem qBS:aJ 139 wI :=
 row_of eF (L:=qRn) (J:=qRo) (by kernel_rfl) rfl rfl fun a h=>Eq.mpr (zE7 a.1 _) (by simp only[aK];exact zEK (eH.1 h))
def qKq:TB:=con [.dat 131,.rcd 131] [.dat 131,.int .i64] (fun a=>sm (List.length a.1)) (fun a=>((shut qF7 a.1 a.2.1).1,(shut qF7 a.1 a.2.1).2,())) rfl
theorem qPn:aJ 209 qKq :=
 row_of eF (L:=zE4) (J:=zE5) (by kernel_rfl) rfl rfl fun a h=>Eq.mpr (zM2 a.1 a.2.1 _) (by simp only[aK];exact zMA _ (eH.1 h))
def qF8:TB:=con [.dat 131,.int .i64] [.dat 131,.bool] (fun a=>sm (List.length a.1)) (fun a=>((shut qKo a.1 a.2.1).1,(shut qKo a.1 a.2.1).2,())) rfl
theorem qIC:aJ 379 qF8 :=
 row_of eF (L:=qXP) (J:=qXQ) (by kernel_rfl) rfl rfl fun a h=>Eq.mpr (zJc a.1 a.2.1 _) (by simp only[aK];exact zJf _ (eH.1 h))
def wJ:TB:=con [.rcd 37] [.rcd 37] (fun a=>bN a.1) (fun a=>(shut jN a.1,())) rfl
theorem qAQ:aJ 121 wJ :=
 row_of eF (L:=qKd) (J:=qKe) (by kernel_rfl) rfl rfl fun a h=>Eq.mpr (qVf a.1 _) (by simp only[aK];exact qVl (aM.1 h))
def qBT:TB:=con [.rcd 37,.int .i64] [.rcd 37,.dat 3] (fun a=>bN a.1) (fun a=>((shut rD a.1 a.2.1).1,(shut rD a.1 a.2.1).2,())) rfl
theorem qF9:aJ 206 qBT :=
 row_of eF (L:=qRk) (J:=qRl) (by kernel_rfl) rfl rfl fun a h=>Eq.mpr (zE6 a.1 a.2.1 _) (by simp only[aK];exact zEJ _ (aM.1 h))
def K2:Con aC.T:=fun f=>bV [(113,qDc),(375,qDd),(130,vL),(311,qHe),(387,qY),(138,zS),(378,qDf),(120,zT),(10,wH),(127,zU),(133,qZ),(114,qHi),(122,qDg),(383,zV),(131,rC),(264,zW),(382,vN),(115,qHj),(125,oM),(134,zX),(325,qHk),(128,oN),(277,qHl),(139,wI),(209,qKq),(379,qF8),(121,wJ),(206,qBT)] f
theorem zOP:iH Tryz.prog K2:=aA qI8 (aA qI9 (aA qDe (aA qPg (aA qAK (aA qF1 (aA qIA (aA qF2 (aA qBN (aA qF3 (aA qAL (aA qPj (aA qIB (aA qF4 (aA qAP (aA qF5 (aA qDh (aA qPk (aA xO (aA qF6 (aA qPl (aA xP (aA qPm (aA qBS (aA qPn (aA qIC (aA qAQ (aA qF9 (eX))))))))))))))))))))))))))))
def hd2:Hd aC.T:=hdT aC Tryz.prog (fzC aC K2) (fun _=>false) 1000 5
theorem lI:bI Tryz.prog hd2:=bU mixed hno (qOW zOP) _ _ _
end Go.Proofs.YtlmkakccmpncjaaGreatDoor
