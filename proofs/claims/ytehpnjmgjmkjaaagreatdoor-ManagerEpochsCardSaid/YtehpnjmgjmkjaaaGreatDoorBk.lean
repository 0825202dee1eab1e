/- Part of the proof. No conditions. -/
import Derived.Test.YtehpnjmgjmkjaaaGreatDoorBj
namespace Go.Proofs.YtehpnjmgjmkjaaaGreatDoor
open Go Go.W Go.Proofs
open Go.W.DT (ret need br bad loop join)
set_option maxRecDepth 100000
def qDI(s:B)(c:Int)(v:List B×Nat)(i:Nat):List B×Nat:=bif ((s.getD i (OfNat.ofNat 0)).toNat:Int)==c then(v.1++[aH v.2 i s],i+1) else v
def qCx(s:B)(c:Int):List B×Nat:=(List.range s.length).foldl (qDI s c) ([],0)
def qLR(s:B)(c:Int):List B:=bif decide (((qCx s c).2:Int)<(s.length:Int)) then(qCx s c).1++[aH (qCx s c).2 s.length s] else(qCx s c).1
theorem qY8{α:Type}(a b:Nat)(l:List α):(aH a b l).length≤l.length:=by unfold aH;simp;omega
theorem qLS(s:B)(c:Int):∀n:Nat,n≤s.length→((List.range n).foldl (qDI s c) ([],0)).1.length≤n∧((List.range n).foldl (qDI s c) ([],0)).2≤n∧∀x∈((List.range n).foldl (qDI s c) ([],0)).1,x.length≤s.length
 | 0,_=>⟨Nat.le_refl _,Nat.le_refl _,fun x hx=>by cases hx⟩
 | n+1,hn=>by
  obtain⟨h1,h2,h3⟩:=qLS s c n (by omega)
  rw[dK]
  generalize (List.range n).foldl (qDI s c) ([],0)=v at h1 h2 h3 ⊢
  unfold qDI
  cases ((s.getD n (OfNat.ofNat 0)).toNat:Int)==c with
  | false=>exact⟨by simp only[cond_false];omega,by simp only[cond_false];omega,h3⟩
  | true =>
   refine⟨by simp only[cond_true,List.length_append,List.length_singleton];omega,Nat.le_refl _,fun x hx=>?_⟩
   rcases List.mem_append.1 hx with e | e
   ·exact h3 x e
   ·rw[List.mem_singleton.1 e];exact qY8 _ _ _
theorem qFJ(s:B)(c:Int):(qLR s c).length≤s.length+1∧∀x∈qLR s c,x.length≤s.length:=by
 obtain⟨h1,h2,h3⟩:=qLS s c s.length (Nat.le_refl _)
 have e:(List.range s.length).foldl (qDI s c) ([],0)=qCx s c:=rfl
 rw[e] at h1 h2 h3
 unfold qLR
 cases decide (((qCx s c).2:Int)<(s.length:Int)) with
 | false=>exact⟨Nat.le_succ_of_le h1,h3⟩
 | true =>
  refine⟨by simp only[cond_true,List.length_append,List.length_singleton];omega,fun x hx=>?_⟩
  rcases List.mem_append.1 hx with e | e
  ·exact h3 x e
  ·rw[List.mem_singleton.1 e];exact qY8 _ _ _
theorem zFz{s:B}(c:Int)(hn:s.length≤1000000):qFs s c=true∧aZ s c=(qLR s c,()):=zJO (by
 unfold zEt
 refine aT ((qCx s c).1,((qCx s c).2:Int),()) ?_ ?_
 ·unfold qCx
  refine qHS s.length (fun i (v:List B×Nat)=>(v.1,(v.2:Int),i,())) (qDI s c) (fun v=>Sum.inl (v.1,(v.2:Int),())) (fun i v=>v.1.length≤i∧v.2≤i) (fun i v hi hv=>?_) (fun v hv=>aF ?_) (b0:=([],0)) ⟨Nat.le_refl 0,Nat.le_refl 0⟩
  ·have hv:v.1.length≤i∧v.2≤i:=hv
   have hs:=aG hi (show s.length≤1000000000 by omega)
   have e1:decide (0≤(i:Int))=true:=by simp
   have e2:inB (v.2:Int) (i:Int) (s.length:Int)=true:=qCL.2 ⟨by omega,by omega,by omega⟩
   have e3:aX (v.1.length+1) 16=true:=eF (by omega) (by decide)
   unfold qDI
   cases hc:((s.getD i (OfNat.ofNat 0)).toNat:Int)==c with
   | false=>exact⟨⟨by simp only[cond_false];omega,by simp only[cond_false];omega⟩,aF (by simp only[sS,bF hi,hs,e1,hc])⟩
   | true=>exact⟨⟨by simp only[cond_true,List.length_append,List.length_singleton];omega,Nat.le_refl _⟩,aF (by simp only[sS,bF hi,hs,e1,e2,e3,hc])⟩
  ·simp only[sS,bM]
 ·obtain⟨h1,h2,h3⟩:=qLS s c s.length (Nat.le_refl _)
  have e:(List.range s.length).foldl (qDI s c) ([],0)=qCx s c:=rfl
  rw[e] at h1 h2 h3
  unfold qLR
  generalize qCx s c=v at h1 h2 ⊢
  have e2:inB (v.2:Int) (s.length:Int) (s.length:Int)=true:=qCL.2 ⟨by omega,by omega,by omega⟩
  have e3:aX (v.1.length+1) 16=true:=eF (by omega) (by decide)
  refine aF ?_
  cases hc:decide ((v.2:Int)<(s.length:Int))<;>simp only[sS,e2,e3])
def jD(s:B):List B:=(qLR s 32).filter fun x=>!(x==[])
theorem qLT(s:B):(jD s).length≤s.length+1∧∀x∈jD s,x.length≤s.length:=by
 obtain⟨h1,h2⟩:=qFJ s 32
 exact⟨Nat.le_trans (List.length_filter_le _ _) h1,fun x hx=>h2 x (List.mem_filter.1 hx).1⟩
theorem zF0{s:B}(hn:s.length≤1000000):qDa s=true∧aS s=(jD s,()):=zE1 (by
 unfold qTm jD
 have hq:=zFz 32 hn
 have hl:=(qFJ s 32).1
 simp only[hq.1,hq.2,bH]
 generalize qLR s 32=l at hl ⊢
 have hl2:l.length≤1000000000:=by omega
 have ef:=fold_filter (fun x:B=>!(x==[])) l []
 rw[List.nil_append] at ef
 rw[←ef]
 refine kF l [] (fun i (v:List B)=>(v,i,())) (fun v x=>bif !(x==[]) then v++[x] else v) (fun v=>(v,())) (fun i v=>v.length≤i) (fun i v hi hI=>⟨?_,?_⟩) (fun v hI=>?_) (b0:=[]) (Nat.le_refl 0)
 ·have hI:v.length≤i:=hI
  cases l.getD i []==[]<;>simp<;>omega
 ·have hI:v.length≤i:=hI
  have e3:aX (v.length+1) 16=true:=eF (by omega) (by decide)
  simp only[sS,bF hi,bG hi,aG hi hl2,e3]
  cases l.getD i []==[]<;>simp only[sS]
 ·simp only[sS,bM])
def qY9(n:Int)(c:UInt8):Int ⊕ Unit:=bif decide ((c.toNat:Int)<48)||decide ((c.toNat:Int)>57) then .inr () else .inl (w64 (w64 (n*10)+w64 (IntKind.u8.wrap ((c.toNat:Int)-48))))
def iK(s:B):Int×Bool×Unit :=
 bif decide ((s.length:Int)<1)||decide ((s.length:Int)>7) then(0,false,())
 else bif ((s.getD 0 (OfNat.ofNat 0)).toNat:Int)==48&&decide ((s.length:Int)>1) then(0,false,())
 else Sum.elim (fun n=>(n,true,())) (fun _=>(0,false,())) (goE qY9 s 0)
theorem qHa(s:B):qW s=true∧jL s=iK s:=zAw (by
 unfold qNZ iK
 cases h1:decide ((s.length:Int)<1) with
 | true=>exact aF rfl
 | false =>
 cases h2:decide ((s.length:Int)>7) with
 | true=>exact aF rfl
 | false =>
 have hn:s.length≤1000000000:=by simp at h2;omega
 have hp:decide (0<(s.length:Int))=true:=by simp at h1;simp;omega
 have main:(loop (((0:Int),(0:Int),()):Int×Int×Unit) (fun s_1=>br (decide (s_1.2.1<(s.length:Int))) (join (need (decide (0≤s_1.2.1)&&decide (s_1.2.1<(s.length:Int))) (br (decide (((s.getD s_1.2.1.toNat (OfNat.ofNat 0)).toNat:Int)<48)) (ret (Sum.inr (Sum.inr ((0:Int),false,())))) (need (decide (0≤s_1.2.1)&&decide (s_1.2.1<(s.length:Int))) (br (decide (((s.getD s_1.2.1.toNat (OfNat.ofNat 0)).toNat:Int)>57)) (ret (Sum.inr (Sum.inr ((0:Int),false,())))) (need (decide (0≤s_1.2.1)&&decide (s_1.2.1<(s.length:Int))) (ret (Sum.inl (w64 (w64 (s_1.1*10)+w64 (IntKind.u8.wrap (((s.getD s_1.2.1.toNat (OfNat.ofNat 0)).toNat:Int)-48))),())))))))) fun t:Int×Unit=>ret (Sum.inl (t.1,w64 (s_1.2.1+1),()))) (ret (Sum.inr (s_1.1,true,()))))).G (Sum.elim (fun n=>(n,true,())) (fun _=>(0,false,())) (goE qY9 s 0)):=by
  refine qTK s (OfNat.ofNat 0:UInt8) (fun i (n:Int)=>(n,i,())) qY9 (fun n=>(n,true,())) (fun _=>(0,false,())) (fun _=>True) (fun i n hi _=>?_) (fun n _=>aF (by simp only[sS,bM])) trivial
  have e1:decide (0≤(i:Int))=true:=by simp
  unfold qY9
  cases ha:decide (((s.getD i (OfNat.ofNat 0:UInt8)).toNat:Int)<48) with
  | true=>exact aF (by simp only[sS,bF hi,e1,ha])
  | false =>
   cases hb:decide (((s.getD i (OfNat.ofNat 0:UInt8)).toNat:Int)>57) with
   | true=>exact aF (by simp only[sS,bF hi,e1,ha,hb])
   | false=>exact⟨trivial,aF (by simp only[sS,bF hi,e1,ha,hb,aG hi hn])⟩
 simp only[Bool.or_false,cond_false,fI,hp,bH]
 cases ((s.getD 0 (OfNat.ofNat 0)).toNat:Int)==48 with
 | false=>exact main
 | true =>
  simp only[Bool.true_and,jP]
  cases decide ((s.length:Int)>1) with
  | true=>exact aF rfl
  | false=>exact main)
def slash(a:UInt8):Bool:=(a.toNat:Int) != 47
def qCy(s:B):Cp×Bool×Unit :=
 bif Nat.beq (s.takeWhile slash).length s.length then(dCp,false,())
 else bif (iK (aH 0 (s.takeWhile slash).length s)).2.1 then(⟨(iK (aH 0 (s.takeWhile slash).length s)).1,(iK (aH ((s.takeWhile slash).length+1) s.length s)).1⟩,(iK (aH ((s.takeWhile slash).length+1) s.length s)).2.1,())
 else(⟨(iK (aH 0 (s.takeWhile slash).length s)).1,(iK (aH ((s.takeWhile slash).length+1) s.length s)).1⟩,false,())
theorem zF1{s:B}(hn:s.length≤1000000):qCZ s=true∧zR s=qCy s:=zE0 (by
 unfold qTl qCy
 refine aT (((s.takeWhile slash).length:Int),()) ?_ ?_
 ·refine qL0 s (OfNat.ofNat 0:UInt8) (fun i=>(i,())) slash (fun i=>Sum.inl ((i:Int),())) (fun i hi=>?_) ?_
  ·have e1:decide (0≤(i:Int))=true:=by simp
   simp only[sS,bF hi,e1,aG hi (show s.length≤1000000000 by omega),slash]
   cases ((s.getD i (OfNat.ofNat 0:UInt8)).toNat:Int) != 47<;>rfl
  ·simp only[sS,bM]
 ·have hk:=qF9 (l:=s) slash
  generalize (s.takeWhile slash).length=k at hk ⊢
  have e1:((k:Int)==(s.length:Int))=Nat.beq k s.length:=by
   cases h:Nat.beq k s.length with
   | true=>rw[Nat.beq_eq] at h;simp[h]
   | false =>
    simp
    intro h2
    have h3:k=s.length:=by omega
    rw[h3] at h
    simp at h
  refine aF ?_
  simp only[fC,dE,e1]
  cases h:Nat.beq k s.length with
  | true=>rfl
  | false =>
   have hlt:k<s.length:=by
    rcases Nat.lt_or_ge k s.length with h2 | h2
    ·exact h2
    ·have: k=s.length:=by omega
     subst this;simp at h
   have e2:decide (0≤(k:Int))=true:=by simp
   have e3:decide ((k:Int)≤(s.length:Int))=true:=by simp;omega
   have e4:w64 ((k:Int)+1)=((k+1:Nat):Int):=by rw[fE]<;>omega
   have e5:inB ((k+1:Nat):Int) (s.length:Int) (s.length:Int)=true:=qCL.2 ⟨by omega,by omega,by omega⟩
   have h1:=qHa (aH 0 k s)
   have h2:=qHa (aH (k+1) s.length s)
   have e6:(k:Int).toNat=k:=Int.toNat_natCast k
   have e7:((k+1:Nat):Int).toNat=k+1:=Int.toNat_natCast _
   have e8:(s.length:Int).toNat=s.length:=Int.toNat_natCast _
   simp only[dN,fC,dE,cond_false,cond_true,e2,e3,e4,e5,e6,e7,e8,h1.1,h1.2,h2.1,h2.2,Bool.and_true]
   cases (iK (aH 0 k s)).2.1<;>rfl)
def qDJ(v:Bool×List Cp)(x:B):Bool×List Cp:=bif v.1 then((qCy x).2.1,v.2++[(qCy x).1]) else v
def qM2:B:=[113,117,101,117,101]
def mD(w:List B)(labels:Int):Qu×Bool×Unit :=
 bif (w.length:Int) != w64 (3+labels) then(dQu,false,())
 else bif !(w.getD 0 []==qM2) then(dQu,false,())
 else(⟨w.getD 1 [],((w.drop 3).foldl qDJ ((iK (w.getD 2 [])).2.1,[])).2,(iK (w.getD 2 [])).1⟩,((w.drop 3).foldl qDJ ((iK (w.getD 2 [])).2.1,[])).1,())
theorem zHL(l:List B)(c:List Cp):l.foldl qDJ (false,c)=(false,c):=by
 induction l with
 | nil=>rfl
 | cons a l ih=>exact ih
theorem qTO:∀(l:List B) (v:Bool×List Cp),(l.foldl qDJ v).2.length≤v.2.length+l.length
 | [],v=>Nat.le_refl _
 | a::l,v=>by
  have ih:=qTO l (qDJ v a)
  have h:(qDJ v a).2.length≤v.2.length+1:=by
   unfold qDJ
   cases v.1 with
   | true=>simp
   | false=>exact Nat.le_succ _
  rw[List.foldl,List.length_cons];omega
theorem zF2{w:List B}{k:Nat}(hk:k≤1000)(hw:∀x∈w,x.length≤1000000):zT w (k:Int)=true∧bU w (k:Int)=mD w (k:Int):=zE3 (by
 unfold qTn mD
 cases h1:(w.length:Int) != w64 (3+(k:Int)) with
 | true=>exact aF rfl
 | false =>
 have hl:w.length=3+k:=by
  have h2:(w.length:Int)=w64 (3+(k:Int)):=by simpa using h1
  rw[fE] at h2<;>omega
 have e0:decide (0<(w.length:Int))=true:=by simp;omega
 have e1:decide (1<(w.length:Int))=true:=by simp;omega
 have e2:decide (2<(w.length:Int))=true:=by simp;omega
 have hq:=qHa (w.getD 2 [])
 have eb:([OfNat.ofNat 113,OfNat.ofNat 117,OfNat.ofNat 101,OfNat.ofNat 117,OfNat.ofNat 101]:B)=qM2:=rfl
 simp only[fI,cond_false,e0,e1,e2,hq.1,hq.2,Bool.and_true,bH,eb]
 cases w.getD 0 []==qM2 with
 | false=>exact aF rfl
 | true =>
 simp only[Bool.not_true,fI,cond_false]
 generalize hR:(w.drop 3).foldl qDJ ((iK (w.getD 2 [])).2.1,[])=R
 refine qP (fun st=>∃(j:Nat) (v:Bool×List Cp),st=(v.1,((3+j:Nat):Int),(w.getD 1 [],v.2,(iK (w.getD 2 [])).1,()),())∧j≤k∧v.2.length≤j∧((w.drop (3+j)).foldl qDJ v)=R) (fun st=>(w.length-st.2.1).toNat) ?_ ⟨0,((iK (w.getD 2 [])).2.1,[]),rfl,Nat.zero_le _,Nat.le_refl 0,hR⟩
 rintro _ ⟨j,v,rfl,hj,hv,hr⟩
 rcases Nat.lt_or_ge (3+j) w.length with hlt | hge
 ·have hd:w.drop (3+j)=w.getD (3+j) []::w.drop (3+j+1):=by
   rw[List.drop_eq_getElem_cons hlt];simp[List.getD,hlt]
  obtain⟨v1,v2⟩:=v
  have hv:v2.length≤j:=hv
  cases v1 with
  | true =>
   left
   have hs:=zF1 (hw _ (bT (d:=[]) hlt))
   have e3:aX (v2.length+1) 16=true:=eF (by omega) (by decide)
   have e4:w64 (((3+j:Nat):Int)+1)=((3+(j+1):Nat):Int):=by rw[fE]<;>omega
   rw[hd] at hr
   refine⟨((qCy (w.getD (3+j) [])).2.1,((3+(j+1):Nat):Int),(w.getD 1 [],v2++[(qCy (w.getD (3+j) [])).1],(iK (w.getD 2 [])).1,()),()),aF ?_,⟨j+1,((qCy (w.getD (3+j) [])).2.1,v2++[(qCy (w.getD (3+j) [])).1]),rfl,by omega,by simp;omega,hr⟩,by simp only[];omega⟩
   simp only[sS,bF hlt,bG hlt,hs.1,hs.2,e3,e4]
  | false =>
   right
   rw[zHL] at hr
   rw[←hr]
   refine aF ?_
   simp only[sS,bF hlt]
 ·right
  have e0:decide (((3+j:Nat):Int)<(w.length:Int))=false:=by simp;omega
  rw[List.drop_eq_nil_of_le hge] at hr
  have hr:v=R:=hr
  rw[←hr]
  refine aF ?_
  simp only[sS,e0])
theorem zAT{ρ:Type}{c:Cf}{q:Qu}(fl:Bool){k:Nat}(hk:k≤c.queues.length)(hn:c.queues.length≤16):(((need (decide ((0:Int)≤(k:Int))&&decide ((k:Int)≤(↑c.queues.length:Int))) (need (aX ((0:Nat)+List.length (@aH Qu (0:Nat) (Int.toNat (k:Int)) c.queues)) (48:Nat)) (need (((0:Nat)+List.length (@aH Qu (0:Nat) (Int.toNat (k:Int)) c.queues)).beq ([] ++ @aH Qu (0:Nat) (Int.toNat (k:Int)) c.queues).length) (ret (Sum.inl ([] ++ @aH Qu (0:Nat) (Int.toNat (k:Int)) c.queues,())))))).join fun(s_3:List Qu×Unit)=>need (((0:Nat)+s_3.1.length).beq s_3.1.length) (need (aX (s_3.1.length+(1:Nat)) (48:Nat)&&((0:Nat)+s_3.1.length).ble s_3.1.length) (need (slB (k:Int) (↑c.queues.length:Int) (↑c.queues.length:Int)) (need (((0:Nat)+(s_3.1.length+(1:Nat))).beq (@aR Qu (0:Nat) s_3.1.length s_3.1++[q]).length) (need (aX (s_3.1.length+(1:Nat)+List.length (@aH Qu (Int.toNat (k:Int)) (↑c.queues.length:Int).toNat c.queues)) (48:Nat)&&((0:Nat)+(s_3.1.length+(1:Nat))).ble (@aR Qu (0:Nat) s_3.1.length s_3.1++[q]).length) (need (((0:Nat)+(s_3.1.length+(1:Nat)+List.length (@aH Qu (Int.toNat (k:Int)) (↑c.queues.length:Int).toNat c.queues))).ble (@aR Qu (0:Nat) (s_3.1.length+(1:Nat)) (@aR Qu (0:Nat) s_3.1.length s_3.1++[q]) ++ @aH Qu (Int.toNat (k:Int)) (↑c.queues.length:Int).toNat c.queues).length) (ret (Sum.inl (fl,(Cf.mk c.labels (@aH Qu (0:Nat) ((0:Nat)+(s_3.1.length+(1:Nat)+List.length (@aH Qu (Int.toNat (k:Int)) (↑c.queues.length:Int).toNat c.queues))) (@aR Qu (0:Nat) (s_3.1.length+(1:Nat)) (@aR Qu (0:Nat) s_3.1.length s_3.1++[q]) ++ @aH Qu (Int.toNat (k:Int)) (↑c.queues.length:Int).toNat c.queues)),()),()))))))))):DT ((Bool×(Cf×Unit)×Unit) ⊕ ρ)).G (Sum.inl (fl,(⟨c.labels,(c.queues.take k++[q])++c.queues.drop k⟩,()),())):=by
 have hN:c.queues.length≤1000000000:=by omega
 refine aT (c.queues.take k,()) (aF (by have h:=zKg (ρ:=(Bool×(Cf×Unit)×Unit) ⊕ ρ) hk hN (show 48≤100000 by decide);simp only[Bool.and_true] at h;exact h)) (aF ?_)
 have ht:(c.queues.take k).length≤16:=by rw[List.length_take];omega
 have hd:(c.queues.drop k).length≤16:=by rw[List.length_drop];omega
 simp only[zFe]
 generalize c.queues.take k=a at ht ⊢
 generalize c.queues.drop k=d at hd ⊢
 have e1:aX (a.length+1) 48=true:=eF (by omega) (by decide)
 have e2:aX (a.length+1+d.length) 48=true:=eF (by omega) (by decide)
 have e3:a.length+1=(a++[q]).length:=by simp
 have e4:@aH Qu 0 (a.length+1+d.length) ((a++[q])++d)=(a++[q])++d:=by rw[e3,←List.length_append];exact gL _
 have e5:@aR Qu 0 (a.length+1) (a++[q])=a++[q]:=by rw[e3];exact vO _
 have e6:=zFf hk
 simp only[sS,e1,e2,e4,e5,e6]
def qWq:B:=[108,97,98,101,108,115]
def at5(c:Cf)(q:Qu):Nat:=(c.queues.takeWhile fun x=>Op.bytesLess x.path q.path).length
def qDK(v:Bool×Cf)(line:B):(Bool×Cf) ⊕ Int :=
 bif ((jD line).length:Int)==0 then .inl v
 else bif (v.2.labels.length:Int)==0 then
  (bif !((jD line).getD 0 []==qWq) then .inr 6 else bif decide (((jD line).length:Int)>3) then .inr 4 else .inl (v.1,⟨[]::(jD line).drop 1,v.2.queues⟩))
 else bif (v.2.queues.length:Int)==16&&(jD line).getD 0 []==qM2 then .inr 4
 else bif !(mD (jD line) (v.2.labels.length:Int)).2.1 then .inr 6
 else .inl (v.1||decide ((at5 v.2 (mD (jD line) (v.2.labels.length:Int)).1:Int)<(v.2.queues.length:Int))&&(v.2.queues.getD (at5 v.2 (mD (jD line) (v.2.labels.length:Int)).1) dQu).path==(mD (jD line) (v.2.labels.length:Int)).1.path,
  ⟨v.2.labels,(v.2.queues.take (at5 v.2 (mD (jD line) (v.2.labels.length:Int)).1)++[(mD (jD line) (v.2.labels.length:Int)).1])++v.2.queues.drop (at5 v.2 (mD (jD line) (v.2.labels.length:Int)).1)⟩)
def fO(s:B):Cf×Int×Unit :=
 bif decide ((s.length:Int)>2000) then(dCf,5,())
 else Sum.elim (fun v=>bif (v.2.labels.length:Int)==0 then(dCf,6,()) else bif v.1 then(dCf,7,()) else(v.2,0,())) (fun e=>(dCf,e,())) (goE qDK (qLR s 10) (false,dCf))
structure qBi(c:Cf):Prop where
 labels:c.labels.length≤3
 queues:c.queues.length≤16
 lab:∀l∈c.labels,l.length≤2000
 qu:∀q∈c.queues,q.caps.length≤3∧q.path.length≤2000
theorem qOD{w:List B}{n:Int}(h:(w.getD 0 []==qM2)=false):(mD w n).2.1=false:=by
 unfold mD
 rw[h]
 cases (w.length:Int) != w64 (3+n)<;>rfl
theorem qTP{w:List B}{k:Nat}(hk:k≤3)(hw:∀x∈w,x.length≤2000):(mD w (k:Int)).1.caps.length≤3∧(mD w (k:Int)).1.path.length≤2000:=by
 unfold mD
 cases h1:(w.length:Int) != w64 (3+(k:Int)) with
 | true=>exact⟨Nat.zero_le _,Nat.zero_le _⟩
 | false =>
 cases w.getD 0 []==qM2 with
 | false=>exact⟨Nat.zero_le _,Nat.zero_le _⟩
 | true =>
 have hl:w.length=3+k:=by
  have h2:(w.length:Int)=w64 (3+(k:Int)):=by simpa using h1
  rw[fE] at h2<;>omega
 refine⟨?_,hw _ (bT (by omega))⟩
 have:= qTO (w.drop 3) ((iK (w.getD 2 [])).2.1,[])
 rw[List.length_drop] at this
 simp only[List.length_nil] at this
 show((w.drop 3).foldl qDJ ((iK (w.getD 2 [])).2.1,[])).2.length≤3
 omega
theorem qLU{v:Bool×Cf}{line:B}(h:qBi v.2)(hl:line.length≤2000):Sum.elim (fun t=>qBi t.2) (fun _=>True) (qDK v line):=by
 have hw:=qLT line
 have hw2:∀x∈jD line,x.length≤2000:=fun x hx=>Nat.le_trans (hw.2 x hx) hl
 unfold qDK
 generalize jD line=w at hw2 ⊢
 cases hz:(w.length:Int)==0 with
 | true=>exact h
 | false =>
 have hpos:0<w.length:=by
  rcases Nat.eq_zero_or_pos w.length with e | e
  ·rw[e] at hz;cases hz
  ·exact e
 cases (v.2.labels.length:Int)==0 with
 | true =>
  cases w.getD 0 []==qWq with
  | false=>trivial
  | true =>
   cases h3:decide ((w.length:Int)>3) with
   | true=>trivial
   | false =>
    have h3:w.length≤3:=by simp at h3;omega
    refine⟨by simp[];omega,h.queues,fun l hl=>?_,h.qu⟩
    rcases List.mem_cons.1 hl with e | e
    ·rw[e];exact Nat.zero_le _
    ·exact hw2 l (List.mem_of_mem_drop e)
 | false =>
  cases hq:(v.2.queues.length:Int)==16&&w.getD 0 []==qM2 with
  | true=>trivial
  | false =>
   cases hb:(mD w (v.2.labels.length:Int)).2.1 with
   | false=>trivial
   | true =>
    have h16:v.2.queues.length≤15:=by
     cases h16:(v.2.queues.length:Int)==16 with
     | false=>have:= h.queues;simp at h16;omega
     | true =>
      rw[h16,Bool.true_and] at hq
      rw[qOD hq] at hb;cases hb
    have hr:=qTP (k:=v.2.labels.length) h.labels hw2
    refine⟨h.labels,?_,h.lab,fun q hq=>?_⟩
    ·show((v.2.queues.take _++[_])++v.2.queues.drop _).length≤16
     simp only[List.length_append,List.length_take,List.length_drop,List.length_singleton];omega
    ·rcases List.mem_append.1 hq with e | e
     ·rcases List.mem_append.1 e with e | e
      ·exact h.qu q (List.mem_of_mem_take e)
      ·rw[List.mem_singleton.1 e];exact hr
     ·exact h.qu q (List.mem_of_mem_drop e)
theorem qHZ(s:B):qBi (fO s).1:=by
 have h0:qBi dCf:=⟨Nat.zero_le _,Nat.zero_le _,fun l h=>(by cases h),fun q h=>(by cases h)⟩
 unfold fO
 cases hs:decide ((s.length:Int)>2000) with
 | true=>exact h0
 | false =>
  have hs:s.length≤2000:=by simp at hs;omega
  have:= qAd (f:=qDK) (fun v=>qBi v.2) (fun _=>True) (qLR s 10) (fun v l hl hv=>qLU hv (Nat.le_trans ((qFJ s 10).2 l hl) hs)) (b:=(false,dCf)) h0
  revert this
  cases goE qDK (qLR s 10) (false,dCf) with
  | inr e=>exact fun _=>h0
  | inl v =>
   intro hv
   simp only[Sum.elim_inl,cond_false]
   cases (v.2.labels.length:Int)==0 with
   | true=>exact h0
   | false =>
    cases v.1 with
    | true=>exact h0
    | false=>exact hv
theorem qBi.n{c:Cf}(h:qBi c):CfN 1000000 c:=⟨Nat.le_trans h.labels (by decide),Nat.le_trans h.queues (by decide),fun q hq=>⟨Nat.le_trans (h.qu q hq).1 (by decide),Nat.le_trans (h.qu q hq).2 (by decide)⟩⟩
theorem zF3(s:B):qDi s=true∧jM s=fO s:=zE8 (by
 unfold qTq fO
 cases hs:decide ((s.length:Int)>2000) with
 | true=>exact aF rfl
 | false =>
 have hs:s.length≤2000:=by simp at hs;omega
 have hc:=zFz 10 (show s.length≤1000000 by omega)
 have hcl:=qFJ s 10
 simp only[fI,cond_false,hc.1,hc.2,bH]
 generalize qLR s 10=L at hcl ⊢
 have hL:L.length≤1000000000:=by omega
 have h0:qBi dCf:=⟨Nat.zero_le _,Nat.zero_le _,fun l h=>(by cases h),fun q h=>(by cases h)⟩
 have main:∀T,T.G (Sum.elim (fun v:Bool×Cf=>Sum.inl (v.1,(v.2,()),())) (fun e=>Sum.inr (dCf,e,())) (goE qDK L (false,dCf)):(Bool×(Cf×Unit)×Unit) ⊕ (Cf×Int×Unit)) →
   (join T fun s_1:Bool×(Cf×Unit)×Unit=>br ((s_1.2.1.1.labels.length:Int)==0) (ret (dCf,6,())) (br s_1.1 (ret (dCf,7,())) (ret (s_1.2.1.1,0,())))).G (Sum.elim (fun v=>bif (v.2.labels.length:Int)==0 then(dCf,6,()) else bif v.1 then(dCf,7,()) else(v.2,0,())) (fun e=>(dCf,e,())) (goE qDK L (false,dCf))):=by
  intro T hT
  revert hT
  cases goE qDK L (false,dCf) with
  | inl v=>exact fun hT=>aT _ hT (aF (by simp only[Sum.elim_inl,fC,dE];cases (v.2.labels.length:Int)==0<;>cases v.1<;>rfl))
  | inr e=>exact fun hT=>rQ hT
 refine main _ ?_
 clear main
 refine zFu L [] (fun i (v:Bool×Cf)=>(v.1,i,(v.2,()),())) qDK (fun v=>Sum.inl (v.1,(v.2,()),())) (fun e=>Sum.inr (dCf,e,())) (fun _ v=>qBi v.2) (fun i v hi hv=>?_) (fun v hv=>aF (by simp only[sS,bM])) (b0:=(false,dCf)) h0
 have hv:qBi v.2:=hv
 have hline:=Nat.le_trans (hcl.2 _ (bT (d:=[]) hi)) hs
 have hr:=qLU hv hline
 obtain⟨tw,c⟩:=v
 have hv:qBi c:=hv
 have hwq:=zF0 (show(L.getD i []).length≤1000000 by omega)
 have hw:=qLT (L.getD i [])
 have hww:∀x∈jD (L.getD i []),x.length≤2000:=fun x hx=>Nat.le_trans (hw.2 x hx) hline
 have hwl:(jD (L.getD i [])).length≤2001:=by omega
 simp only[bF hi,bG hi,jP,mV,hwq.1,hwq.2,Int.toNat_natCast,aG hi hL]
 unfold qDK at hr ⊢
 simp only[] at hr ⊢
 generalize jD (L.getD i [])=w at hww hwl hr ⊢
 cases hz:(w.length:Int)==0 with
 | true =>
  simp only[sZ,cond_true]
  exact⟨hv,aF (by simp only[sS])⟩
 | false =>
 have hpos:0<w.length:=by
  rcases Nat.eq_zero_or_pos w.length with e | e
  ·rw[e] at hz;cases hz
  ·exact e
 have ep:decide (0<(w.length:Int))=true:=by simp;omega
 rw[hz] at hr
 simp only[tC,cond_false] at hr ⊢
 cases hlz:(c.labels.length:Int)==0 with
 | true =>
  rw[hlz] at hr
  simp only[sZ,cond_true,ep,Bool.and_true,mV] at hr ⊢
  have el:([OfNat.ofNat 108,OfNat.ofNat 97,OfNat.ofNat 98,OfNat.ofNat 101,OfNat.ofNat 108,OfNat.ofNat 115]:B)=qWq:=rfl
  rw[el]
  cases hlb:w.getD 0 []==qWq with
  | false =>
   simp only[Bool.not_false,sZ,cond_true]
   exact aF (by simp only[sS])
  | true =>
   rw[hlb] at hr
   simp only[Bool.not_true,tC,cond_false] at hr ⊢
   cases h3:decide ((w.length:Int)>3) with
   | true =>
    simp only[sZ,cond_true]
    exact aF (by simp only[sS])
   | false =>
    rw[h3] at hr
    simp only[tC,cond_false] at hr ⊢
    have h3':w.length≤3:=by simp at h3;omega
    have e1:decide ((1:Int)≤(w.length:Int))=true:=by simp;omega
    have e2:decide ((w.length:Int)≤(w.length:Int))=true:=by simp
    have e3:@aH B 1 w.length w=w.drop 1:=vP 1 w
    have hd:(w.drop 1).length≤2:=by rw[List.length_drop];omega
    refine⟨hr,?_⟩
    simp only[e1,e2,Bool.and_true,mV,e3]
    generalize w.drop 1=d at hd ⊢
    cases d with
    | nil =>
     have e4:(eG [([]:B)] 1 [])=[[]]:=rfl
     refine aF ?_
     simp only[sS,e4]
     rfl
    | cons a d =>
     have e4:aX (1+(a::d).length) 16=true:=eF (by omega) (by decide)
     have e5:Nat.ble (1+(a::d).length) 1=false:=Bool.eq_false_iff.2 fun h=>by have:= qGw.1 h;simp at this;omega
     have e6:Nat.ble (0+(1+(a::d).length)) ([[]]++(a::d)).length=true:=by simp;omega
     have e7:@aH B 0 (0+(1+(a::d).length)) ([[]]++(a::d))=[]::a::d:=by
      have: 0+(1+(a::d).length)=([[]]++(a::d):List B).length:=by simp;omega
      rw[this,gL];rfl
     refine aF ?_
     simp only[e5,fC,dN,dE,jJ,cond_false,e4,e6,e7,cond_true,iH]
 | false =>
 rw[hlz] at hr
 have hk:c.labels.length≤1000:=Nat.le_trans hv.labels (by decide)
 have hqq:=zF2 hk (fun x hx=>Nat.le_trans (hww x hx) (by decide))
 have eb:([OfNat.ofNat 113,OfNat.ofNat 117,OfNat.ofNat 101,OfNat.ofNat 117,OfNat.ofNat 101]:B)=qM2:=rfl
 simp only[tC,cond_false,ep,Bool.and_true,hqq.1,hqq.2,eb] at hr ⊢
 have hno:(w.getD 0 []==qM2)=false→(mD w (c.labels.length:Int)).2.1=false:=qOD
 generalize mD w (c.labels.length:Int)=Q at hr hno ⊢
 cases h16:(c.queues.length:Int)==16 with
 | false =>
  rw[h16] at hr
  simp only[Bool.false_and,cond_false,tC,mV] at hr ⊢
  obtain⟨q,ok,u⟩:=Q
  cases ok with
  | false =>
   simp only[Bool.not_false,sZ,cond_true]
   exact aF (by simp only[sS])
  | true =>
  simp only[Bool.not_true,tC,cond_false] at hr ⊢
  refine⟨hr,?_⟩
  clear hr
  refine aT ((tw||decide ((at5 c q:Int)<(c.queues.length:Int))&&(c.queues.getD (at5 c q) dQu).path==q.path),(⟨c.labels,(c.queues.take (at5 c q)++[q])++c.queues.drop (at5 c q)⟩,()),()) ?_ (aF rfl)
  have hk5:at5 c q≤c.queues.length:=qF9 _
  refine aT ((at5 c q:Int),()) ?_ ?_
  ·unfold at5
   refine qL0 c.queues dQu (fun i=>(i,())) (fun x=>Op.bytesLess x.path q.path) (fun i=>Sum.inl ((i:Int),())) (fun j hj=>?_) ?_
   ·simp only[sS,bF hj,bG hj,aG hj (show c.queues.length≤1000000000 by have:= hv.queues;omega)]
    cases Op.bytesLess (c.queues.getD j dQu).path q.path<;>rfl
   ·simp only[sS,bM]
  ·generalize at5 c q=k at hk5 ⊢
   cases tw with
   | true=>simp only[Bool.true_or,jP];exact zAT true hk5 hv.queues
   | false =>
    simp only[Bool.false_or,fI]
    cases hlt:decide ((k:Int)<(c.queues.length:Int)) with
    | false=>simp only[Bool.false_and,fI];exact zAT false hk5 hv.queues
    | true =>
     have hlt:k<c.queues.length:=by simp at hlt;omega
     simp only[Bool.true_and,jP,bG hlt,bH]
     exact zAT ((c.queues.getD k dQu).path==q.path) hk5 hv.queues
 | true =>
  rw[h16] at hr
  simp only[Bool.true_and,sZ,mV] at hr ⊢
  cases h0q:w.getD 0 []==qM2 with
  | true =>
   simp only[cond_true,sZ]
   exact aF (by simp only[sS])
  | false =>
   rw[h0q] at hr
   simp only[cond_false,tC,mV] at hr ⊢
   obtain⟨q,ok,u⟩:=Q
   cases ok with
   | false =>
    simp only[Bool.not_false,sZ,cond_true]
    exact aF (by simp only[sS])
   | true =>
   simp only[Bool.not_true,tC,cond_false] at hr ⊢
   refine⟨hr,?_⟩
   clear hr
   refine aT ((tw||decide ((at5 c q:Int)<(c.queues.length:Int))&&(c.queues.getD (at5 c q) dQu).path==q.path),(⟨c.labels,(c.queues.take (at5 c q)++[q])++c.queues.drop (at5 c q)⟩,()),()) ?_ (aF rfl)
   have hk5:at5 c q≤c.queues.length:=qF9 _
   refine aT ((at5 c q:Int),()) ?_ ?_
   ·unfold at5
    refine qL0 c.queues dQu (fun i=>(i,())) (fun x=>Op.bytesLess x.path q.path) (fun i=>Sum.inl ((i:Int),())) (fun j hj=>?_) ?_
    ·simp only[sS,bF hj,bG hj,aG hj (show c.queues.length≤1000000000 by have:= hv.queues;omega)]
     cases Op.bytesLess (c.queues.getD j dQu).path q.path<;>rfl
    ·simp only[sS,bM]
   ·generalize at5 c q=k at hk5 ⊢
    cases tw with
    | true=>simp only[Bool.true_or,jP];exact zAT true hk5 hv.queues
    | false =>
     simp only[Bool.false_or,fI]
     cases hlt:decide ((k:Int)<(c.queues.length:Int)) with
     | false=>simp only[Bool.false_and,fI];exact zAT false hk5 hv.queues
     | true =>
      have hlt:k<c.queues.length:=by simp at hlt;omega
      simp only[Bool.true_and,jP,bG hlt,bH]
      exact zAT ((c.queues.getD k dQu).path==q.path) hk5 hv.queues)
end Go.Proofs.YtehpnjmgjmkjaaaGreatDoor
