/- Part of the proof. No conditions. -/
import Derived.Test.YtehpnjmgjmkjaaaGreatDoorRb
noncomputable section
namespace Go.Proofs.YtehpnjmgjmkjaaaGreatDoor
open Go Go.W Go.Proofs
set_option maxRecDepth 100000
def qBB{α:Type}(key:α→Int)(x:α):List α→List α
 | []=>[]
 | a::r=>bif key a==key x then r else a::r
def qA6{α:Type}(key:α→Int)(x:α)(l:List α):List α :=
 let k:=(l.takeWhile fun a=>decide (key a<key x)).length
 (l.take k++[x])++qBB key x (l.drop k)
def qPC{α:Type}(key:α→Int)(x:α)(l:List α):List α :=
 let k:=(l.takeWhile fun a=>decide (key a<key x)).length
 (l.take k++[x])++l.drop k
def wJ(s:Se)(n:Nd):Se:={ s with nodes:=qA6 (·.id) n s.nodes }
def dQ(s:Se)(x:Ap):Se:={ s with apps:=qA6 (·.id) x s.apps }
def qA7(s:Se)(x:Sl):Se:={ s with slots:=qPC (·.node) x s.slots }
def fA(l:List Int)(n:Int):List Int×Bool:=let v:=l.filter fun a=>a != n;(v,decide ((v.length:Int)<l.length))
def bQ(s:Se)(node:Int):Se:={ s with slots:=s.slots.filter fun a=>a.node != node }
def eY(s:Se)(node:Int):Sl×Bool:=findD dSl (fun a=>a.node==node) s.slots
def uC(s:Se)(app prio:Int):Bool:=s.slots.any fun a=>a.app==app&&a.prio==prio
def qIf(l:List Pn)(label t:Int):Vec:=l.foldl (fun v a=>bif a.label==label&&decide (a.start≤t)&&decide (t<a.stop) then gD v a.need else v) gG
def yC(l:List Int)(n:Int):Bool:=l.any fun a=>a==n
def qG1(s:Se)(node:Int):List Int:=s.conts.filterMap fun a=>bif a.node==node then some a.id else none
def uS(s:Se)(app:Int):List Int:=s.conts.filterMap fun a=>bif a.app==app&&a.notice != 0 then some a.id else none
def qJW(s:Se)(app:Int):Int:=match s.conts.find? fun a=>a.app==app&&a.master with | some a=>a.id | none=>-1
def qCQ(s:Se)(app:Int):Int×Int:=s.conts.foldl (fun v a=>bif a.app==app then(bif a.master then w64 (v.1+1) else v.1,w64 (v.2+1)) else v) (0,0)
theorem zG{α ρ:Type}(p:α→Bool)(g:Bool→ρ):∀l:List α,scan (fun(_:Unit) a=>bif p a then .inr (g true) else .inl ()) (fun _=>g false) l ()=g (l.any p)
 | []=>rfl
 | a::l=>by
  simp only[scan,List.any]
  cases p a with
  | true=>rfl
  | false=>simpa using zG p g l
theorem zDo{s:Se}(node:Int)(h:dV s):(qJS s node).G ((eY s node).1,(eY s node).2,()):=by
 unfold qJS
 refine jU s.slots dSl (fun i (_:Unit)=>(i,())) (fun _ a=>bif a.node==node then .inr (a,true,()) else .inl ()) (fun _=>(dSl,false,())) (fun _ _=>True) (fun i b hi _=>?_) (fun b _=>?_) (b0:=()) trivial (fD _ (fun a b=>(a,b,())) dSl _)
 ·have h1:=aG hi h.slots
  cases hc0:(s.slots.getD i dSl).node==node<;>simp_all
 ·simp
theorem qZX{s:Se}(app prio:Int)(h:dV s):(qG0 s app prio).G (uC s app prio,()):=by
 unfold qG0
 refine jU s.slots dSl (fun i (_:Unit)=>(i,())) (fun _ a=>bif a.app==app&&a.prio==prio then .inr (true,()) else .inl ()) (fun _=>(false,())) (fun _ _=>True) (fun i b hi _=>?_) (fun b _=>?_) (b0:=()) trivial ?_
 ·have h1:=aG hi h.slots
  cases hc0:(s.slots.getD i dSl).app==app<;>cases hc1:(s.slots.getD i dSl).prio==prio<;>simp_all
 ·simp
 ·exact zG _ (fun b=>(b,())) _
theorem zJ7{l:List Int}(n:Int)(h:l.length≤1000000000):(qVs l n).G (yC l n,()):=by
 unfold qVs
 refine jU l 0 (fun i (_:Unit)=>(i,())) (fun _ a=>bif a==n then .inr (true,()) else .inl ()) (fun _=>(false,())) (fun _ _=>True) (fun i b hi _=>?_) (fun b _=>?_) (b0:=()) trivial ?_
 ·have h1:=aG hi h
  cases hc0:l.getD i 0==n<;>simp_all
 ·simp
 ·exact zG _ (fun b=>(b,())) _
theorem zDp{s:Se}(app:Int)(h:dV s):(qJU s app).G (qJW s app,()):=by
 unfold qJU
 refine jU s.conts dCt (fun i (_:Unit)=>(i,())) (fun _ a=>bif a.app==app&&a.master then .inr (a.id,()) else .inl ()) (fun _=>(-1,())) (fun _ _=>True) (fun i b hi _=>?_) (fun b _=>?_) (b0:=()) trivial ?_
 ·have h1:=aG hi h.conts
  cases hc0:(s.conts.getD i dCt).app==app<;>cases hc1:(s.conts.getD i dCt).master<;>simp_all
 ·simp
 ·rw[qGx (fun a:Ct=>a.app==app&&a.master) (fun a=>(a.id,())) (-1,())]
  unfold qJW
  cases s.conts.find? fun a=>a.app==app&&a.master<;>rfl
theorem zJ8{l:List Pn}(label t:Int)(h:l.length≤1000000000):(qVr l label t).G (qIf l label t,()):=by
 unfold qVr
 refine jU l dPn (fun i (v:Vec)=>(i,(v,()),())) (fun v a=>.inl (bif a.label==label&&decide (a.start≤t)&&decide (t<a.stop) then gD v a.need else v)) (fun v=>(v,())) (fun _ _=>True) (fun i b hi _=>?_) (fun b _=>?_) (b0:=gG) trivial (bX (fin:=fun(v:Vec)=>(v,())) _ _ _)
 ·have h1:=aG hi h
  cases hc0:(l.getD i dPn).label==label<;>cases hc1:decide ((l.getD i dPn).start≤t)<;>cases hc2:decide (t<(l.getD i dPn).stop)<;>simp_all [gD]<;>(intros;omega)
 ·simp
theorem qSe{s:Se}(app:Int)(h:dV s):(qBA s app).G ((qCQ s app).1,(qCQ s app).2,()):=by
 unfold qBA
 refine jU s.conts dCt (fun i (v:Int×Int)=>(v.2,v.1,i,())) (fun v a=>.inl (bif a.app==app then(bif a.master then w64 (v.1+1) else v.1,w64 (v.2+1)) else v)) (fun v=>(v.1,v.2,())) (fun _ _=>True) (fun i b hi _=>?_) (fun b _=>?_) (b0:=(0,0)) trivial (bX (fin:=fun(v:Int×Int)=>(v.1,v.2,())) _ _ _)
 ·have h1:=aG hi h.conts
  cases hc0:(s.conts.getD i dCt).app==app<;>cases hc1:(s.conts.getD i dCt).master<;>simp_all []<;>(intros;omega)
 ·simp
theorem zJ9{s:Se}(node:Int)(h:dV s):(qVt s node).G (qG1 s node,()):=by
 unfold qVt
 refine jU s.conts dCt (fun i (v:List Int)=>(v,i,())) (fun v a=>.inl (sF v (bif a.node==node then some a.id else none))) (fun v=>(v,())) (fun i b=>b.length≤i) (fun i b hi hI=>?_) (fun b hI=>?_) (b0:=[]) (Nat.zero_le _) ?_
 ·have h1:=aG hi h.conts
  have h2:=h.conts
  cases hc0:(s.conts.getD i dCt).node==node<;>simp_all [sF]<;>omega
 ·simp[aH]
 ·refine(bX (fun v a=>sF v (bif a.node==node then some a.id else none)) (fun v=>(v,())) s.conts []).trans ?_
  rw[fold_filterMap];rfl
theorem qSf{s:Se}(app:Int)(h:dV s):(qB9 s app).G (uS s app,()):=by
 unfold qB9
 refine jU s.conts dCt (fun i (v:List Int)=>(v,i,())) (fun v a=>.inl (sF v (bif a.app==app&&a.notice != 0 then some a.id else none))) (fun v=>(v,())) (fun i b=>b.length≤i) (fun i b hi hI=>?_) (fun b hI=>?_) (b0:=[]) (Nat.zero_le _) ?_
 ·have h1:=aG hi h.conts
  have h2:=h.conts
  cases hc0:(s.conts.getD i dCt).app==app<;>cases hc1:(s.conts.getD i dCt).notice != 0<;>simp_all [sF]<;>omega
 ·simp[aH]
 ·refine(bX (fun v a=>sF v (bif a.app==app&&a.notice != 0 then some a.id else none)) (fun v=>(v,())) s.conts []).trans ?_
  rw[fold_filterMap];rfl
theorem qVu{s:Se}(node:Int)(h:dV s):(qEf s node).G (bQ s node,()):=by
 unfold qEf
 refine jU s.slots dSl (fun i (v:List Sl)=>(v,i,())) (fun v a=>.inl (bif a.node != node then v++[a] else v)) (fun v=>({ s with slots:=v },())) (fun i b=>b.length≤i) (fun i b hi hI=>?_) (fun b hI=>?_) (b0:=[]) (Nat.zero_le _) ?_
 ·have h1:=aG hi h.slots
  have h2:=h.slots
  cases hc0:(s.slots.getD i dSl).node != node<;>simp_all<;>omega
 ·simp[aH]
 ·refine(bX (fun v a=>bif a.node != node then v++[a] else v) (fun v=>({ s with slots:=v },())) s.slots []).trans ?_
  rw[fold_filter];rfl
theorem qSg{l:List Int}(n:Int)(h:l.length≤1000000000):(qB8 l n).G ((fA l n).1,(fA l n).2,()):=by
 unfold qB8
 refine jU l 0 (fun i (v:List Int)=>(v,i,())) (fun v a=>.inl (bif a != n then v++[a] else v)) (fun v=>(v,decide ((v.length:Int)<l.length),())) (fun i b=>b.length≤i) (fun i b hi hI=>?_) (fun b hI=>?_) (b0:=[]) (Nat.zero_le _) ?_
 ·have h1:=aG hi h
  have h2:=h
  cases hc0:l.getD i 0 != n<;>simp_all<;>omega
 ·simp[aH]
 ·refine(bX (fun v a=>bif a != n then v++[a] else v) (fun v=>(v,decide ((v.length:Int)<l.length),())) l []).trans ?_
  rw[fold_filter];rfl
theorem zDq{s:Se}(x:Sl)(h:dV s):(qJT s x).G (qA7 s x,()):=by
 unfold qJT
 have hn:=h.slots
 have hk:(s.slots.takeWhile fun a=>decide (a.node<x.node)).length≤s.slots.length:=(List.takeWhile_prefix _).length_le
 refine aT (((s.slots.takeWhile fun a=>decide (a.node<x.node)).length:Nat),()) (qP5 s.slots dSl (fun i (_:Unit)=>(i,())) (fun i _ a=>bif decide (a.node<x.node) then .inl () else .inr (Sum.inl ((i:Int),()))) (fun i _=>Sum.inl ((i:Int),())) (fun _ _=>True) (fun i b hi _=>?_) (fun b _=>?_) (b0:=()) trivial ?_) ?_
 ·have h1:=aG hi hn
  cases hc:decide ((s.slots.getD i dSl).node<x.node)<;>simp_all<;>(intros;omega)
 ·simp
 ·rw[qB6 (fun a:Sl=>decide (a.node<x.node)) (fun i=>Sum.inl ((i:Int),()))];simp
 generalize hkk:(s.slots.takeWhile fun a=>decide (a.node<x.node)).length=k at hk ⊢
 have hlen:(s.slots.take k).length=k:=by rw[List.length_take];omega
 refine aT (s.slots.take k,()) (by simp;omega) ?_
 refine aT (s.slots.take k++[x],()) ?_ ?_
 ·generalize s.slots.take k=xs at hlen ⊢
  simp
  omega
 simp only[qA3,qH0,qIv]
 have e:(aR 0 (s.slots.take k++[x]).length (s.slots.take k++[x])++aH (Int.toNat (k:Int)) (s.slots.length:Int).toNat s.slots)=(s.slots.take k++[x])++s.slots.drop k:=by
  rw[vO,Int.toNat_natCast,Int.toNat_natCast,vP]
 simp only[e]
 unfold qA7 qPC
 simp only[hkk]
 have hl2:(s.slots.take k++[x]).length=k+1:=by rw[List.length_append,hlen];rfl
 generalize s.slots.take k++[x]=xs at hl2 ⊢
 simp[aH]
 exact⟨hk,⟨by omega,by omega⟩,List.take_of_length_le (by simp)⟩
theorem zJA{s:Se}(x:Nd)(h:dV s):(qVn s x).G (wJ s x,()):=by
 unfold qVn
 have hn:=h.nodes
 have hk:(s.nodes.takeWhile fun a=>decide (a.id<x.id)).length≤s.nodes.length:=(List.takeWhile_prefix _).length_le
 refine aT (((s.nodes.takeWhile fun a=>decide (a.id<x.id)).length:Nat),()) (qP5 s.nodes dNd (fun i (_:Unit)=>(i,())) (fun i _ a=>bif decide (a.id<x.id) then .inl () else .inr (Sum.inl ((i:Int),()))) (fun i _=>Sum.inl ((i:Int),())) (fun _ _=>True) (fun i b hi _=>?_) (fun b _=>?_) (b0:=()) trivial ?_) ?_
 ·have h1:=aG hi hn
  cases hc:decide ((s.nodes.getD i dNd).id<x.id)<;>simp_all<;>(intros;omega)
 ·simp
 ·rw[qB6 (fun a:Nd=>decide (a.id<x.id)) (fun i=>Sum.inl ((i:Int),()))];simp
 generalize hkk:(s.nodes.takeWhile fun a=>decide (a.id<x.id)).length=k at hk ⊢
 have hlen:(s.nodes.take k).length=k:=by rw[List.length_take];omega
 refine aT (s.nodes.take k,()) (by simp;omega) ?_
 refine aT (s.nodes.take k++[x],()) ?_ ?_
 ·generalize s.nodes.take k=xs at hlen ⊢
  simp
  omega
 have hkk':∃k':Nat,k'≤s.nodes.length∧s.nodes.drop k' = qBB (·.id) x (s.nodes.drop k) ∧
   (DT.br (decide ((k:Int)<(s.nodes.length:Int))) (DT.need (ixB (k:Int) (s.nodes.length:Int)) (DT.br ((s.nodes.getD (Int.toNat (k:Int)) dNd).id==x.id) (DT.ret (Sum.inl (w64 ((k:Int)+1),()))) (DT.ret (Sum.inl ((k:Int),()))))) (DT.ret (Sum.inl ((k:Int),())))).G (Sum.inl ((k':Int),()):(Int×Unit) ⊕ (Se×Unit)):=by
  rcases Nat.lt_or_ge k s.nodes.length with hlt | hge
  ·have hd:s.nodes.drop k=s.nodes.getD k dNd::s.nodes.drop (k+1):=by
    rw[List.drop_eq_getElem_cons hlt];simp[List.getD,hlt]
   have h1:=aG hlt hn
   cases hc:(s.nodes.getD k dNd).id==x.id with
   | true=>exact⟨k+1,hlt,by rw[hd];show _=cond _ _ _;rw[hc];rfl,by simp_all⟩
   | false=>exact⟨k,hk,by rw[hd];show _=cond _ _ _;rw[hc];rfl,by simp_all⟩
  ·have hkl:k=s.nodes.length:=by omega
   refine⟨k,hk,by rw[hkl];simp[qBB],by simp_all⟩
 obtain⟨k',hk',hdr,hG⟩:=hkk'
 refine aT ((k':Int),()) hG ?_
 simp only[qA3,qH0,qIv]
 have e:(aR 0 (s.nodes.take k++[x]).length (s.nodes.take k++[x])++aH (Int.toNat (k':Int)) (s.nodes.length:Int).toNat s.nodes)=(s.nodes.take k++[x])++s.nodes.drop k':=by
  rw[vO,Int.toNat_natCast,Int.toNat_natCast,vP]
 simp only[e]
 unfold wJ qA6
 simp only[hkk]
 have hl2:(s.nodes.take k++[x]).length=k+1:=by rw[List.length_append,hlen];rfl
 generalize s.nodes.take k++[x]=xs at hl2 ⊢
 simp[aH]
 exact⟨hk',⟨by omega,by omega⟩,(List.take_of_length_le (by simp)).trans (congrArg (xs ++ ·) hdr)⟩
theorem zGG{s:Se}(x:Ap)(h:dV s):(qPB s x).G (dQ s x,()):=by
 unfold qPB
 have hn:=h.apps
 have hk:(s.apps.takeWhile fun a=>decide (a.id<x.id)).length≤s.apps.length:=(List.takeWhile_prefix _).length_le
 refine aT (((s.apps.takeWhile fun a=>decide (a.id<x.id)).length:Nat),()) (qP5 s.apps dAp (fun i (_:Unit)=>(i,())) (fun i _ a=>bif decide (a.id<x.id) then .inl () else .inr (Sum.inl ((i:Int),()))) (fun i _=>Sum.inl ((i:Int),())) (fun _ _=>True) (fun i b hi _=>?_) (fun b _=>?_) (b0:=()) trivial ?_) ?_
 ·have h1:=aG hi hn
  cases hc:decide ((s.apps.getD i dAp).id<x.id)<;>simp_all<;>(intros;omega)
 ·simp
 ·rw[qB6 (fun a:Ap=>decide (a.id<x.id)) (fun i=>Sum.inl ((i:Int),()))];simp
 generalize hkk:(s.apps.takeWhile fun a=>decide (a.id<x.id)).length=k at hk ⊢
 have hlen:(s.apps.take k).length=k:=by rw[List.length_take];omega
 refine aT (s.apps.take k,()) (by simp;omega) ?_
 refine aT (s.apps.take k++[x],()) ?_ ?_
 ·generalize s.apps.take k=xs at hlen ⊢
  simp
  omega
 have hkk':∃k':Nat,k'≤s.apps.length∧s.apps.drop k' = qBB (·.id) x (s.apps.drop k) ∧
   (DT.br (decide ((k:Int)<(s.apps.length:Int))) (DT.need (ixB (k:Int) (s.apps.length:Int)) (DT.br ((s.apps.getD (Int.toNat (k:Int)) dAp).id==x.id) (DT.ret (Sum.inl (w64 ((k:Int)+1),()))) (DT.ret (Sum.inl ((k:Int),()))))) (DT.ret (Sum.inl ((k:Int),())))).G (Sum.inl ((k':Int),()):(Int×Unit) ⊕ (Se×Unit)):=by
  rcases Nat.lt_or_ge k s.apps.length with hlt | hge
  ·have hd:s.apps.drop k=s.apps.getD k dAp::s.apps.drop (k+1):=by
    rw[List.drop_eq_getElem_cons hlt];simp[List.getD,hlt]
   have h1:=aG hlt hn
   cases hc:(s.apps.getD k dAp).id==x.id with
   | true=>exact⟨k+1,hlt,by rw[hd];show _=cond _ _ _;rw[hc];rfl,by simp_all⟩
   | false=>exact⟨k,hk,by rw[hd];show _=cond _ _ _;rw[hc];rfl,by simp_all⟩
  ·have hkl:k=s.apps.length:=by omega
   refine⟨k,hk,by rw[hkl];simp[qBB],by simp_all⟩
 obtain⟨k',hk',hdr,hG⟩:=hkk'
 refine aT ((k':Int),()) hG ?_
 simp only[qA3,qH0,qIv]
 have e:(aR 0 (s.apps.take k++[x]).length (s.apps.take k++[x])++aH (Int.toNat (k':Int)) (s.apps.length:Int).toNat s.apps)=(s.apps.take k++[x])++s.apps.drop k':=by
  rw[vO,Int.toNat_natCast,Int.toNat_natCast,vP]
 simp only[e]
 unfold dQ qA6
 simp only[hkk]
 have hl2:(s.apps.take k++[x]).length=k+1:=by rw[List.length_append,hlen];rfl
 generalize s.apps.take k++[x]=xs at hl2 ⊢
 simp[aH]
 exact⟨hk',⟨by omega,by omega⟩,(List.take_of_length_le (by simp)).trans (congrArg (xs ++ ·) hdr)⟩
def qG2:TB:=con [.rcd 39,.rcd 57] [.rcd 39] (fun a=>bC a.1) (fun a=>(shut wJ a.1 a.2.1,())) rfl
theorem qPD:aM 134 qG2 :=
 row_of eO (L:=zCZ) (J:=zDa) (by kernel_rfl) rfl rfl fun a h=>Eq.mpr (zJ2 a.1 a.2.1 _) (by simp only[aN];exact zJA _ (aO.1 h))
def qCR:TB:=con [.rcd 39,.rcd 47] [.rcd 39] (fun a=>bC a.1) (fun a=>(shut dQ a.1 a.2.1,())) rfl
theorem qIz:aM 141 qCR :=
 row_of eO (L:=qX8) (J:=qX9) (by kernel_rfl) rfl rfl fun a h=>Eq.mpr (zGF a.1 a.2.1 _) (by simp only[aN];exact zGG _ (aO.1 h))
def zH:TB:=con [.rcd 39,.rcd 85] [.rcd 39] (fun a=>bC a.1) (fun a=>(shut qA7 a.1 a.2.1,())) rfl
theorem qFh:aM 397 zH :=
 row_of eO (L:=qRY) (J:=qRZ) (by kernel_rfl) rfl rfl fun a h=>Eq.mpr (zDg a.1 a.2.1 _) (by simp only[aN];exact zDq _ (aO.1 h))
def qU:TB:=con [.rcd 39,.int .i64] [.rcd 39] (fun a=>bC a.1) (fun a=>(shut bQ a.1 a.2.1,())) rfl
theorem qA8:aM 150 qU :=
 row_of eO (L:=qJQ) (J:=qJR) (by kernel_rfl) rfl rfl fun a h=>Eq.mpr (qVq a.1 a.2.1 _) (by simp only[aN];exact qVu _ (aO.1 h))
def zI:TB:=con [.rcd 39,.int .i64] [.rcd 85,.bool] (fun a=>bC a.1) (fun a=>((shut eY a.1 a.2.1).1,(shut eY a.1 a.2.1).2,())) rfl
theorem qFi:aM 279 zI :=
 row_of eO (L:=qRX) (J:=noL) (by kernel_rfl) rfl rfl fun a h=>Eq.mpr (zDf a.1 a.2.1 _) (by simp only[aN];exact zDo _ (aO.1 h))
def uT:TB:=con [.rcd 39,.int .i64,.int .i64] [.bool] (fun a=>bC a.1) (fun a=>(shut uC a.1 a.2.1 a.2.2.1,())) rfl
theorem qCS:aM 396 uT :=
 row_of eO (L:=qNf) (J:=noL) (by kernel_rfl) rfl rfl fun a h=>Eq.mpr (qZW a.1 a.2.1 a.2.2.1 _) (by simp only[aN];exact qZX _ _ (aO.1 h))
def qG3:TB:=con [.rcd 39,.int .i64] [.dat 3] (fun a=>bC a.1) (fun a=>(shut qG1 a.1 a.2.1,())) rfl
theorem qPE:aM 135 qG3 :=
 row_of eO (L:=zDk) (J:=zDl) (by kernel_rfl) rfl rfl fun a h=>Eq.mpr (zJ6 a.1 a.2.1 _) (by simp only[aN];exact zJ9 _ (aO.1 h))
def oQ:TB:=con [.rcd 39,.int .i64] [.dat 3] (fun a=>bC a.1) (fun a=>(shut uS a.1 a.2.1,())) rfl
theorem wQ:aM 144 oQ :=
 row_of eO (L:=qH4) (J:=qH5) (by kernel_rfl) rfl rfl fun a h=>Eq.mpr (qSa a.1 a.2.1 _) (by simp only[aN];exact qSf _ (aO.1 h))
def zJ:TB:=con [.rcd 39,.int .i64] [.int .i64] (fun a=>bC a.1) (fun a=>(shut qJW a.1 a.2.1,())) rfl
theorem qFj:aM 153 zJ :=
 row_of eO (L:=qSb) (J:=noL) (by kernel_rfl) rfl rfl fun a h=>Eq.mpr (zDm a.1 a.2.1 _) (by simp only[aN];exact zDp _ (aO.1 h))
def oU:TB:=con [.rcd 39,.int .i64] [.int .i64,.int .i64] (fun a=>bC a.1) (fun a=>((shut qCQ a.1 a.2.1).1,(shut qCQ a.1 a.2.1).2,())) rfl
theorem wR:aM 50 oU :=
 row_of eO (L:=qH6) (J:=qH7) (by kernel_rfl) rfl rfl fun a h=>Eq.mpr (qSc a.1 a.2.1 _) (by simp only[aN];exact qSe _ (aO.1 h))
def qG4:TB:=con [.dat 3,.int .i64] [.bool] (fun a=>sm (List.length a.1)) (fun a=>(shut yC a.1 a.2.1,())) rfl
theorem qPF:aM 340 qG4 :=
 row_of eO (L:=zDj) (J:=noL) (by kernel_rfl) rfl rfl fun a h=>Eq.mpr (zJ5 a.1 a.2.1 _) (by simp only[aN];exact zJ7 _ (eX.1 h))
def oV:TB:=con [.dat 3,.int .i64] [.dat 3,.bool] (fun a=>sm (List.length a.1)) (fun a=>((shut fA a.1 a.2.1).1,(shut fA a.1 a.2.1).2,())) rfl
theorem wS:aM 147 oV :=
 row_of eO (L:=qH2) (J:=qH3) (by kernel_rfl) rfl rfl fun a h=>Eq.mpr (qRU a.1 a.2.1 _) (by simp only[aN];exact qSg _ (eX.1 h))
def qG5:TB:=con [.dat 59,.int .i64,.int .i64] [.rcd 27] (fun a=>sm (List.length a.1)) (fun a=>(shut qIf a.1 a.2.1 a.2.2.1,())) rfl
theorem qPG:aM 292 qG5 :=
 row_of eO (L:=zDh) (J:=zDi) (by kernel_rfl) rfl rfl fun a h=>Eq.mpr (zJ4 a.1 a.2.1 a.2.2.1 _) (by simp only[aN];exact zJ8 _ _ (eX.1 h))
def K1:Con aC.T:=fun f=>dH [(48,qCM),(109,qCN),(149,uR),(326,qGz),(401,qQ),(157,zB),(392,qCP),(47,zC),(17,zD),(146,zF),(152,qR),(134,qG2),(141,qCR),(397,zH),(150,qU),(279,zI),(396,uT),(135,qG3),(144,oQ),(153,zJ),(50,oU),(340,qG4),(147,oV),(292,qG5)] f
def hd1:Hd aC.T:=hdT aC Tryz.prog (fzC aC K1) (fun _=>false) 1000 5
def qBd(x:Ak)(v:List Ak×Bool)(a:Ak):List Ak×Bool :=
 (bif a.prio != x.prio then(bif !v.2&&decide (a.prio>x.prio) then v.1++[{ x with missed:=0 }] else v.1)++[a] else bif !v.2&&decide (a.prio>x.prio) then v.1++[{ x with missed:=0 }] else v.1,
  v.2||decide (a.prio>x.prio))
def qD5(l:List Ak)(x:Ak):List Ak×Int :=
 let v:=l.foldl (qBd x) ([],x.count==0)
 let out:=bif !v.2 then v.1++[{ x with missed:=0 }] else v.1
 bif decide ((out.length:Int)>8) then([],4) else(out,0)
theorem qJX{α β:Type}(P:Nat→β→Prop)(g:β→α→β)(hs:∀i b a,P i b→P (i+1) (g b a)):∀(l:List α) (i:Nat) (b:β),P i b→P (i+l.length) (l.foldl g b)
 | [],i,b,h=>h
 | a::l,i,b,h=>by
  have:= qJX P g hs l (i+1) (g b a) (hs i b a h)
  rw[List.foldl,List.length_cons,show i+(l.length+1)=i+1+l.length by omega]
  exact this
theorem qNg(x:Ak)(i:Nat)(v:List Ak×Bool)(a:Ak)(h:v.1.length≤2*i):(qBd x v a).1.length≤2*(i+1):=by
 unfold qBd
 cases a.prio != x.prio<;>cases (!v.2&&decide (a.prio>x.prio))<;>simp<;>omega
theorem zJB{l:List Ak}(x:Ak)(h:l.length≤1000000000):(qVo l x).G ((qD5 l x).1,(qD5 l x).2,()):=by
 unfold qVo
 have hb:=qJX (fun i (v:List Ak×Bool)=>v.1.length≤2*i) (qBd x) (qNg x) l 0 ([],x.count==0) (Nat.zero_le _)
 refine aT ((l.foldl (qBd x) ([],x.count==0)).1,(l.foldl (qBd x) ([],x.count==0)).2,()) (lN l dAk (fun i (v:List Ak×Bool)=>(v.1,v.2,i,())) (fun v a=>.inl (qBd x v a)) (fun v=>.inl (v.1,v.2,())) (fun i v=>v.1.length≤2*i) (fun i b hi hI=>⟨qNg x i b _ hI,?_⟩) (fun b hI=>?_) (b0:=([],x.count==0)) (Nat.zero_le _) (bX (fin:=fun(v:List Ak×Bool)=>Sum.inl (v.1,v.2,())) _ _ _)) ?_
 ·have h1:=aG hi h
  have hI:b.1.length≤2*i:=hI
  have hi1:ixB (i:Int) (l.length:Int)=true:=gZ.2 ⟨by omega,by omega⟩
  have hi2:decide ((i:Int)<(l.length:Int))=true:=by simp;omega
  have hf1:aX (b.1.length+1) 64=true:=gI.2 ⟨by omega,by omega⟩
  have hf2:aX (b.1.length+1+1) 64=true:=gI.2 ⟨by omega,by omega⟩
  cases hc:b.2<;>cases hd:decide ((l.getD i dAk).prio>x.prio)<;>cases he:(l.getD i dAk).prio != x.prio<;>simp only[sS,hi1,hi2,hc,hd,he,hf1,hf2,h1,qBd]
 ·simp
 ·unfold qD5
  simp only[]
  generalize l.foldl (qBd x) ([],x.count==0)=v at hb ⊢
  have hb:v.1.length≤2*(0+l.length):=hb
  have hf1:aX (v.1.length+1) 64=true:=gI.2 ⟨by omega,by omega⟩
  refine aF ?_
  have hs:∀m:List Ak,aH 0 m.length m=m:=fun m=>by rw[mO,List.take_length]
  cases hv:v.2 with
  | true =>
   cases h8:decide ((v.1.length:Int)>8)<;>simp only[sS,h8,hs,hf1]
  | false =>
   cases h8:decide (((v.1++[{ x with missed:=0 }]).length:Int)>8)<;>simp only[sS,hs,hf1] at h8 ⊢<;>simp only[sS,h8]
def qG6(prio:Int)(v:Bool×List Ak)(a:Ak):Bool×List Ak :=
 bif a.prio==prio then(bif decide (w64 (a.count-1)≤0) then(true,v.2) else(true,v.2++[{ a with count:=w64 (a.count-1),missed:=0 }])) else(v.1,v.2++[a])
def qJY(l:List Ak)(prio:Int):List Ak×Bool:=let v:=l.foldl (qG6 prio) (false,[]);(v.2,v.1)
theorem qJZ(prio:Int)(i:Nat)(v:Bool×List Ak)(a:Ak)(h:v.2.length≤i):(qG6 prio v a).2.length≤i+1:=by
 unfold qG6
 cases a.prio==prio<;>cases decide (w64 (a.count-1)≤0)<;>simp<;>omega
theorem zGH{l:List Ak}(prio:Int)(h:l.length≤1000000000):(qPA l prio).G ((qJY l prio).1,(qJY l prio).2,()):=by
 unfold qPA
 refine lN l dAk (fun i (v:Bool×List Ak)=>(v.1,v.2,i,())) (fun v a=>.inl (qG6 prio v a)) (fun v=>(v.2,v.1,())) (fun i v=>v.2.length≤i) (fun i b hi hI=>⟨qJZ prio i b _ hI,?_⟩) (fun b hI=>?_) (b0:=(false,[])) (Nat.zero_le _) (bX (fin:=fun(v:Bool×List Ak)=>(v.2,v.1,())) _ _ _)
 ·have h1:=aG hi h
  have hI:b.2.length≤i:=hI
  have hi1:ixB (i:Int) (l.length:Int)=true:=gZ.2 ⟨by omega,by omega⟩
  have hi2:decide ((i:Int)<(l.length:Int))=true:=by simp;omega
  have hf1:aX (b.2.length+1) 64=true:=gI.2 ⟨by omega,by omega⟩
  cases hc:(l.getD i dAk).prio==prio<;>cases hd:decide (w64 ((l.getD i dAk).count-1)≤0)<;>simp only[sS,hi1,hi2,hc,hd,hf1,h1,qG6]
 ·simp[aH]
def live(a:Ap):Bool:=a.state==1||a.state==2
def gJ(v:Bool×List Ap)(a:Ap):Bool×List Ap:=bif !v.1&&!live a then(true,v.2) else(v.1,v.2++[a])
def lQ(s:Se):Se:={ s with apps:=(s.apps.foldl gJ (false,[])).2 }
theorem qMx(i:Nat)(v:Bool×List Ap)(a:Ap)(h:v.2.length≤i):(gJ v a).2.length≤i+1:=by
 unfold gJ
 cases !v.1&&!live a<;>simp<;>omega
theorem qVv{s:Se}(h:dV s):(qEe s).G (lQ s,()):=by
 unfold qEe
 have hn:=h.apps
 refine lN s.apps dAp (fun i (v:Bool×List Ap)=>(v.1,v.2,i,())) (fun v a=>.inl (gJ v a)) (fun v=>({ s with apps:=v.2 },())) (fun i v=>v.2.length≤i) (fun i b hi hI=>⟨qMx i b _ hI,?_⟩) (fun b hI=>?_) (b0:=(false,[])) (Nat.zero_le _) (bX (fin:=fun(v:Bool×List Ap)=>({ s with apps:=v.2 },())) _ _ _)
 ·have h1:=aG hi hn
  have hI:b.2.length≤i:=hI
  have hi1:ixB (i:Int) (s.apps.length:Int)=true:=gZ.2 ⟨by omega,by omega⟩
  have hi2:decide ((i:Int)<(s.apps.length:Int))=true:=by simp;omega
  have hf1:aX (b.2.length+1) 200=true:=gI.2 ⟨by omega,by omega⟩
  cases hc:b.1<;>cases hd:(s.apps.getD i dAp).state==1<;>cases he:(s.apps.getD i dAp).state==2<;>simp only[sS,hi1,hi2,hc,hd,he,hf1,h1,gJ,live]
 ·simp[aH]
def nE(s:Se)(id:Int):Se×List Int:=({ s with conts:=s.conts.filter fun c=>!(c.app==id),slots:=s.slots.filter fun x=>x.app != id },s.conts.filterMap fun c=>bif c.app==id then some c.id else none)
theorem qSh(id:Int):∀(l:List Ct) (v:List Int×List Ct),l.foldl (fun v c=>bif c.app==id then(v.1++[c.id],v.2) else(v.1,v.2++[c])) v=(v.1++l.filterMap (fun c=>bif c.app==id then some c.id else none),v.2++l.filter fun c=>!(c.app==id))
 | [],v=>by simp
 | c::l,v=>by
  rw[List.foldl,qSh id l,List.filterMap_cons,List.filter_cons]
  cases c.app==id<;>simp
theorem zDr{s:Se}(id:Int)(h:dV s):(qJO s id).G ((nE s id).1,(nE s id).2,()):=by
 unfold qJO
 have hn:=h.conts
 have hn2:=h.slots
 have hsub:∀{α:Type} (m:List α),aH 0 m.length m=m:=fun m=>by rw[mO,List.take_length]
 refine aT (s.conts.filterMap (fun c=>bif c.app==id then some c.id else none),s.conts.filter (fun c=>!(c.app==id)),()) (lN s.conts dCt (fun i (v:List Int×List Ct)=>(v.1,v.2,i,())) (fun v c=>.inl (bif c.app==id then(v.1++[c.id],v.2) else(v.1,v.2++[c]))) (fun v=>.inl (v.1,v.2,())) (fun i v=>v.1.length≤i∧v.2.length≤i) (fun i b hi hI=>⟨?_,?_⟩) (fun b hI=>?_) (b0:=([],[])) ⟨Nat.zero_le _,Nat.zero_le _⟩ ?_) ?_
 ·obtain⟨hI1,hI2⟩:=hI
  cases (s.conts.getD i dCt).app==id<;>simp<;>omega
 ·obtain⟨hI1,hI2⟩:=hI
  have h1:=aG hi hn
  have hi1:ixB (i:Int) (s.conts.length:Int)=true:=gZ.2 ⟨by omega,by omega⟩
  have hi2:decide ((i:Int)<(s.conts.length:Int))=true:=by simp;omega
  have hf1:aX (b.1.length+1) 8=true:=gI.2 ⟨by omega,by omega⟩
  have hf2:aX (b.2.length+1) 72=true:=gI.2 ⟨by omega,by omega⟩
  cases hc:(s.conts.getD i dCt).app==id<;>simp only[sS,hi1,hi2,hc,hf1,hf2,h1]
 ·simp
 ·refine(bX (fun v c=>bif c.app==id then(v.1++[c.id],v.2) else(v.1,v.2++[c])) (fun(v:List Int×List Ct)=>Sum.inl (v.1,v.2,())) s.conts ([],[])).trans ?_
  rw[qSh];simp
 ·refine lN s.slots dSl (fun i (v:List Sl)=>(v,i,())) (fun v a=>.inl (bif a.app != id then v++[a] else v)) (fun v=>({ s with conts:=s.conts.filter (fun c=>!(c.app==id)),slots:=v },s.conts.filterMap (fun c=>bif c.app==id then some c.id else none),())) (fun i b=>b.length≤i) (fun i b hi hI=>⟨?_,?_⟩) (fun b hI=>?_) (b0:=[]) (Nat.zero_le _) ?_
  ·have hI:b.length≤i:=hI
   cases (s.slots.getD i dSl).app != id<;>simp<;>omega
  ·have hI:b.length≤i:=hI
   have h1:=aG hi hn2
   have hi1:ixB (i:Int) (s.slots.length:Int)=true:=gZ.2 ⟨by omega,by omega⟩
   have hi2:decide ((i:Int)<(s.slots.length:Int))=true:=by simp;omega
   have hf1:aX (b.length+1) 24=true:=gI.2 ⟨by omega,by omega⟩
   cases hc:(s.slots.getD i dSl).app != id<;>simp only[sS,hi1,hi2,hc,hf1,h1]
  ·have hd:decide ((s.slots.length:Int)<(s.slots.length:Int))=false:=by simp
   simp only[sS,hd,hsub]
  ·refine(bX (fun v a=>bif a.app != id then v++[a] else v) (fun v=>({ s with conts:=s.conts.filter (fun c=>!(c.app==id)),slots:=v },s.conts.filterMap (fun c=>bif c.app==id then some c.id else none),())) s.slots []).trans ?_
   rw[fold_filter];rfl
theorem qSi{n:Nat}(h:n≤1000000001):w64 ((n:Int)-1)=(n:Int)-1:=by rw[fE]<;>omega
def qBe(b:UInt8):Bool:=!((b.toNat:Int) != 46)
def eT(p:B):Nat→Int
 | 0=>-1
 | n+1=>bif qBe (p.getD n 0) then(n:Int) else eT p n
theorem qEg(p:B):∀n,-1≤eT p n∧eT p n<n
 | 0=>⟨Int.le_refl _,by simp[eT]⟩
 | n+1=>by
  have:= qEg p n
  simp only[eT]
  cases qBe (p.getD n 0)<;>simp<;>omega
def eZ(p:B):B:=bif decide (eT p p.length<0) then[] else p.take (eT p p.length).toNat
theorem zDs{p:B}(h:p.length≤1000000000):(qJP p).G (eZ p,()):=by
 unfold qJP
 have hl:=qEg p p.length
 refine aT (eT p p.length,()) (qP (fun s=>∃n:Nat,n≤p.length∧s=((n:Int)-1,())∧eT p n=eT p p.length) (fun s=>(s.1+1).toNat) ?_ ⟨p.length,Nat.le_refl _,by rw[qSi (by omega)],rfl⟩) ?_
 ·rintro _ ⟨n,hn,rfl,hk⟩
  cases n with
  | zero =>
   right
   have h1:decide (((0:Nat):Int)-1≥0)=false:=by simp
   refine bN h1 ?_
   rw[qH0,←hk]
   rfl
  | succ n =>
   have e:(((n+1:Nat):Int)-1)=(n:Int):=by omega
   have h1:decide ((n:Int)≥0)=true:=by simp
   have h2:decide ((0:Int)≤(n:Int))=true:=by simp
   have h5:decide ((n:Int)<(p.length:Int))=true:=by simp;omega
   have h3:=qSi (n:=n) (by omega)
   simp only[eT] at hk
   rw[e]
   cases hd:qBe (p.getD n 0) with
   | true =>
    right
    have h4:(((p.getD n 0).toNat:Int) != 46)=false:=by unfold qBe at hd;simpa using hd
    rw[hd] at hk
    refine aF ?_
    simp only[sS,h1,h5,h4,←hk]
   | false =>
    left
    have h4:(((p.getD n 0).toNat:Int) != 46)=true:=by unfold qBe at hd;simpa using hd
    rw[hd] at hk
    refine⟨((n:Int)-1,()),aF ?_,⟨n,by omega,rfl,hk⟩,by simp only[];omega⟩
    simp only[sS,h1,h5,h3,h4]
 ·refine aF ?_
  unfold eZ
  cases hc:decide (eT p p.length<0) with
  | true=>simp only[sS]
  | false =>
   have h5:¬eT p p.length<0:=by simpa using hc
   have h2:(decide ((0:Int)≤eT p p.length)&&decide (eT p p.length≤(p.length:Int)))=true:=by simp;omega
   simp only[sS,h2]
def qVw(a b:List Int):Bool:=(a.length:Int)==(b.length:Int)&&!((a.zip b).any fun x=>x.1 != x.2)
theorem zDt{a b:List Int}(h:a.length≤1000000000):(qJV a b).G (qVw a b,()):=by
 unfold qJV qVw
 cases hc:(a.length:Int)==(b.length:Int) with
 | false =>
  refine fQ (by simpa [bne] using hc) ?_
  rfl
 | true =>
  refine bN (by simpa [bne] using hc) ?_
  have he:a.length=b.length:=by have:= eq_of_beq hc;omega
  have hz:(a.zip b).length=a.length:=by simp;omega
  refine lN (a.zip b) (0,0) (fun i (_:Unit)=>(i,())) (fun _ x=>bif x.1 != x.2 then .inr (false,()) else .inl ()) (fun _=>(true,())) (fun _ _=>True) (fun i u hi _=>?_) (fun u _=>?_) (b0:=()) trivial ?_
  ·have hi':i<a.length:=by omega
   have hg:(a.zip b).getD i (0,0)=(a.getD i 0,b.getD i 0):=by
    have hib:i<b.length:=by omega
    rw[List.getD,List.getElem?_eq_getElem hi,Option.getD_some,List.getElem_zip]
    simp[List.getD,hi',hib]
   have h1:=aG hi' h
   have hi1:ixB (i:Int) (a.length:Int)=true:=gZ.2 ⟨by omega,by omega⟩
   have hi2:ixB (i:Int) (b.length:Int)=true:=gZ.2 ⟨by omega,by omega⟩
   have hi3:decide ((i:Int)<(a.length:Int))=true:=by simp;omega
   rw[hg]
   cases hd:a.getD i 0 != b.getD i 0<;>simp only[sS,hd,hi1,hi2,hi3,h1,true_and]
  ·rw[hz]
   have hi3:decide ((a.length:Int)<(a.length:Int))=false:=by simp
   simp only[sS,hi3]
  ·refine(zG (fun x:Int×Int=>x.1 != x.2) (fun b=>(!b,())) _).trans ?_
   rfl
def vQ:TB:=con [.str] [.str] (fun a=>sm (List.length a.1)) (fun a=>(shut eZ a.1,())) rfl
theorem qBC:aM 158 vQ :=
 row_of eO (L:=qRV) (J:=qRW) (by kernel_rfl) rfl rfl fun a h=>Eq.mpr (zDe a.1 _) (by simp only[aN];exact zDs (eX.1 h))
def qBD:TB:=con [.dat 3,.dat 3] [.bool] (fun a=>sm (List.length a.1)) (fun a=>(shut qVw a.1 a.2.1,())) rfl
theorem qFk:aM 111 qBD :=
 row_of eO (L:=qSd) (J:=noL) (by kernel_rfl) rfl rfl fun a h=>Eq.mpr (zDn a.1 a.2.1 _) (by simp only[aN];exact zDt (eX.1 h))
def qKa:TB:=con [.dat 95,.rcd 95] [.dat 95,.int .i64] (fun a=>sm (List.length a.1)) (fun a=>((shut qD5 a.1 a.2.1).1,(shut qD5 a.1 a.2.1).2,())) rfl
theorem qPH:aM 227 qKa :=
 row_of eO (L:=zDb) (J:=zDc) (by kernel_rfl) rfl rfl fun a h=>Eq.mpr (zJ3 a.1 a.2.1 _) (by simp only[aN];exact zJB _ (eX.1 h))
def qFl:TB:=con [.dat 95,.int .i64] [.dat 95,.bool] (fun a=>sm (List.length a.1)) (fun a=>((shut qJY a.1 a.2.1).1,(shut qJY a.1 a.2.1).2,())) rfl
theorem qI0:aM 393 qFl :=
 row_of eO (L:=qX6) (J:=qX7) (by kernel_rfl) rfl rfl fun a h=>Eq.mpr (zGE a.1 a.2.1 _) (by simp only[aN];exact zGH _ (eX.1 h))
def vR:TB:=con [.rcd 39] [.rcd 39] (fun a=>bC a.1) (fun a=>(shut lQ a.1,())) rfl
theorem qA9:aM 140 vR :=
 row_of eO (L:=qJM) (J:=qJN) (by kernel_rfl) rfl rfl fun a h=>Eq.mpr (qVp a.1 _) (by simp only[aN];exact qVv (aO.1 h))
def qBE:TB:=con [.rcd 39,.int .i64] [.rcd 39,.dat 3] (fun a=>bC a.1) (fun a=>((shut nE a.1 a.2.1).1,(shut nE a.1 a.2.1).2,())) rfl
theorem qFm:aM 224 qBE :=
 row_of eO (L:=qRS) (J:=qRT) (by kernel_rfl) rfl rfl fun a h=>Eq.mpr (zDd a.1 a.2.1 _) (by simp only[aN];exact zDr _ (aO.1 h))
def K2:Con aC.T:=fun f=>dH [(48,qCM),(109,qCN),(149,uR),(326,qGz),(401,qQ),(157,zB),(392,qCP),(47,zC),(17,zD),(146,zF),(152,qR),(134,qG2),(141,qCR),(397,zH),(150,qU),(279,zI),(396,uT),(135,qG3),(144,oQ),(153,zJ),(50,oU),(340,qG4),(147,oV),(292,qG5),(158,vQ),(111,qBD),(227,qKa),(393,qFl),(140,vR),(224,qBE)] f
theorem zL7:iL Tryz.prog K2:=aA qIw (aA qIx (aA qCO (aA qP9 (aA qA4 (aA qFd (aA qIy (aA qFe (aA qFf (aA qFg (aA qA5 (aA qPD (aA qIz (aA qFh (aA qA8 (aA qFi (aA qCS (aA qPE (aA wQ (aA qFj (aA wR (aA qPF (aA wS (aA qPG (aA qBC (aA qFk (aA qPH (aA qI0 (aA qA9 (aA qFm (fH))))))))))))))))))))))))))))))
def hd2:Hd aC.T:=hdT aC Tryz.prog (fzC aC K2) (fun _=>false) 1000 5
theorem lS:bJ Tryz.prog hd2:=bW mixed hno (qP0 zL7) _ _ _
end Go.Proofs.YtehpnjmgjmkjaaaGreatDoor
