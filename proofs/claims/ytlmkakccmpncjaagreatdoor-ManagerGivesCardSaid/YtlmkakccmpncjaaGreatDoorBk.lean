/- Part of the proof: texts Bu Bv. No conditions. -/
import Derived.Test.YtlmkakccmpncjaaGreatDoorBj
set_option linter.all false
namespace Go.Proofs.YtlmkakccmpncjaaGreatDoor
open Sum
open Go Go.W Go.Proofs
open Go.W.DT (ret need br bad loop join)
set_option maxRecDepth 100000
def qEb(s:B)(c:Int)(v:List B×Nat)(i:Nat):List B×Nat:=bif ((s.getD i (OfNat.ofNat 0)).toNat:Int)==c then(v.1++[aO v.2 i s],i+1) else v
def qCB(s:B)(c:Int):List B×Nat:=(List.range s.length).foldl (qEb s c) ([],0)
def qLt(s:B)(c:Int):List B:=bif decide (((qCB s c).2:Int)<(s.length:Int)) then(qCB s c).1++[aO (qCB s c).2 s.length s] else(qCB s c).1
theorem qZa{α:Type}(a b:Nat)(l:List α):(aO a b l).length≤l.length:=by unfold aO;simp;omega
theorem qLu(s:B)(c:Int):∀n:Nat,n≤s.length→((List.range n).foldl (qEb s c) ([],0)).1.length≤n∧((List.range n).foldl (qEb s c) ([],0)).2≤n∧∀x∈((List.range n).foldl (qEb s c) ([],0)).1,x.length≤s.length
 | 0,_=>⟨df _,df _,fun x hx=>by cases hx⟩
 | n+1,hn=>by
  obtain⟨h1,h2,h3⟩:=qLu s c n (by omega)
  rw[dB]
  generalize (List.range n).foldl (qEb s c) ([],0)=v at h1 h2 h3 ⊢
  unfold qEb
  cases ((s.getD n (OfNat.ofNat 0)).toNat:Int)==c with
  | false=>exact⟨by simp only[cond_false];omega,by simp only[cond_false];omega,h3⟩
  | true =>
   refine⟨by simp only[cond_true,dh,gz];omega,df _,fun x hx=>?_⟩
   rcases dz.1 hx with e | e
   ·exact h3 x e
   ·rw[ib.1 e];exact qZa _ _ _
theorem qGs(s:B)(c:Int):(qLt s c).length≤s.length+1∧∀x∈qLt s c,x.length≤s.length:=by
 obtain⟨h1,h2,h3⟩:=qLu s c s.length (df _)
 have e:(List.range s.length).foldl (qEb s c) ([],0)=qCB s c:=rfl
 rw[e] at h1 h2 h3
 unfold qLt
 cases decide (((qCB s c).2:Int)<(s.length:Int)) with
 | false=>exact⟨p8 h1,h3⟩
 | true =>
  refine⟨by simp only[cond_true,dh,gz];omega,fun x hx=>?_⟩
  rcases dz.1 hx with e | e
  ·exact h3 x e
  ·rw[ib.1 e];exact qZa _ _ _
theorem zHi{s:B}(c:Int)(hn:s.length≤1000000):qFG s c=true∧qK7 s c=(qLt s c,()):=zMN (by
 unfold zGa
 refine aN ((qCB s c).1,((qCB s c).2:Int),()) ?_ ?_
 ·unfold qCB
  refine qIh s.length (fun i (v:List B×Nat)=>(v.1,(v.2:Int),i,())) (qEb s c) (fun v=>inl (v.1,(v.2:Int),())) (fun i v=>v.1.length≤i∧v.2≤i) (fun i v hi hv=>?_) (fun v hv=>aF ?_) (b0:=([],0)) ⟨df 0,df 0⟩
  ·have hv:v.1.length≤i∧v.2≤i:=hv
   have hs:=aD hi (show s.length≤1000000000 by omega)
   have e1:decide (0≤(i:Int))=true:=by simp
   have e2:inB (v.2:Int) (i:Int) (s.length:Int)=true:=qDb.2 ⟨by omega,by omega,by omega⟩
   have e3:aT (v.1.length+1) 16=true:=dK (by omega) (by decide)
   unfold qEb
   cases hc:((s.getD i (OfNat.ofNat 0)).toNat:Int)==c with
   | false=>exact⟨⟨by simp only[cond_false];omega,by simp only[cond_false];omega⟩,aF (by simp only[sS,aY hi,hs,e1,hc])⟩
   | true=>exact⟨⟨by simp only[cond_true,dh,gz];omega,df _⟩,aF (by simp only[sS,aY hi,hs,e1,e2,e3,hc])⟩
  ·simp only[sS,bE]
 ·obtain⟨h1,h2,h3⟩:=qLu s c s.length (df _)
  have e:(List.range s.length).foldl (qEb s c) ([],0)=qCB s c:=rfl
  rw[e] at h1 h2 h3
  unfold qLt
  generalize qCB s c=v at h1 h2 ⊢
  have e2:inB (v.2:Int) (s.length:Int) (s.length:Int)=true:=qDb.2 ⟨by omega,by omega,by omega⟩
  have e3:aT (v.1.length+1) 16=true:=dK (by omega) (by decide)
  refine aF ?_
  cases hc:decide ((v.2:Int)<(s.length:Int))<;>simp only[sS,e2,e3,hc,eB])
def jH(s:B):List B:=(qLt s 32).filter fun x=>!(x==[])
theorem qLv(s:B):(jH s).length≤s.length+1∧∀x∈jH s,x.length≤s.length:=by
 obtain⟨h1,h2⟩:=qGs s 32
 exact⟨bq (gp _ _) h1,fun x hx=>h2 x (l7.1 hx).1⟩
theorem zHj{s:B}(hn:s.length≤1000000):qDs s=true∧qFL s=(jH s,()):=zGi (by
 unfold qSQ jH
 have hq:=zHi 32 hn
 have hl:=(qGs s 32).1
 simp only[hq.1,hq.2,aW]
 generalize qLt s 32=l at hl ⊢
 have hl2:l.length≤1000000000:=by omega
 have ef:=fold_filter (fun x:B=>!(x==[])) l []
 rw[l6] at ef
 rw[←ef]
 refine jZ l [] (fun i (v:List B)=>(v,i,())) (fun v x=>bif !(x==[]) then v++[x] else v) (fun v=>(v,())) (fun i v=>v.length≤i) (fun i v hi hI=>⟨?_,?_⟩) (fun v hI=>?_) (b0:=[]) (df 0)
 ·have hI:v.length≤i:=hI
  cases l.getD i []==[]<;>simp<;>omega
 ·have hI:v.length≤i:=hI
  have e3:aT (v.length+1) 16=true:=dK (by omega) (by decide)
  simp only[sS,aY hi,bB hi,aD hi hl2,e3]
  cases l.getD i []==[]<;>simp only[sS]
 ·simp only[sS,bE,eB])
def qZb(n:Int)(c:UInt8):Int ⊕ Unit:=bif decide ((c.toNat:Int)<48)||decide ((c.toNat:Int)>57) then .inr () else .inl (w64 (w64 (n*10)+w64 (IntKind.u8.wrap ((c.toNat:Int)-48))))
def iG(s:B):Int×Bool×Unit :=
 bif decide ((s.length:Int)<1)||decide ((s.length:Int)>7) then(0,false,())
 else bif ((s.getD 0 (OfNat.ofNat 0)).toNat:Int)==48&&decide ((s.length:Int)>1) then(0,false,())
 else Sum.elim (fun n=>(n,true,())) (fun _=>(0,false,())) (goE qZb s 0)
theorem qH1(s:B):rG s=true∧lW s=iG s:=zB7 (by
 unfold qN2 iG
 cases h1:decide ((s.length:Int)<1) with
 | true=>exact aF rfl
 | false =>
 cases h2:decide ((s.length:Int)>7) with
 | true=>exact aF rfl
 | false =>
 have hn:s.length≤1000000000:=by simp at h2;omega
 have hp:decide (0<(s.length:Int))=true:=by simp at h1;simp;omega
 have main:(loop (((0:Int),(0:Int),()):Int×Int×Unit) (fun s_1=>br (decide (s_1.2.1<(s.length:Int))) (join (need (decide (0≤s_1.2.1)&&decide (s_1.2.1<(s.length:Int))) (br (decide (((s.getD s_1.2.1.toNat (OfNat.ofNat 0)).toNat:Int)<48)) (ret (inr (inr ((0:Int),false,())))) (need (decide (0≤s_1.2.1)&&decide (s_1.2.1<(s.length:Int))) (br (decide (((s.getD s_1.2.1.toNat (OfNat.ofNat 0)).toNat:Int)>57)) (ret (inr (inr ((0:Int),false,())))) (need (decide (0≤s_1.2.1)&&decide (s_1.2.1<(s.length:Int))) (ret (inl (w64 (w64 (s_1.1*10)+w64 (IntKind.u8.wrap (((s.getD s_1.2.1.toNat (OfNat.ofNat 0)).toNat:Int)-48))),())))))))) fun t:Int×Unit=>ret (inl (t.1,w64 (s_1.2.1+1),()))) (ret (inr (s_1.1,true,()))))).G (Sum.elim (fun n=>(n,true,())) (fun _=>(0,false,())) (goE qZb s 0)):=by
  refine qT0 s (OfNat.ofNat 0:UInt8) (fun i (n:Int)=>(n,i,())) qZb (fun n=>(n,true,())) (fun _=>(0,false,())) (fun _=>True) (fun i n hi _=>?_) (fun n _=>aF (by simp only[sS,bE])) trivial
  have e1:decide (0≤(i:Int))=true:=by simp
  unfold qZb
  cases ha:decide (((s.getD i (OfNat.ofNat 0:UInt8)).toNat:Int)<48) with
  | true=>exact aF (by simp only[sS,aY hi,e1,ha])
  | false =>
   cases hb:decide (((s.getD i (OfNat.ofNat 0:UInt8)).toNat:Int)>57) with
   | true=>exact aF (by simp only[sS,aY hi,e1,ha,hb])
   | false=>exact⟨trivial,aF (by simp only[sS,aY hi,e1,ha,hb,aD hi hn])⟩
 simp only[oq,cond_false,eY,hp,aW]
 cases ((s.getD 0 (OfNat.ofNat 0)).toNat:Int)==48 with
 | false=>exact main
 | true =>
  simp only[jl,jQ]
  cases decide ((s.length:Int)>1) with
  | true=>exact aF rfl
  | false=>exact main)
def slash(a:UInt8):Bool:=(a.toNat:Int) != 47
def qCC(s:B):Cp×Bool×Unit :=
 bif Nat.beq (s.takeWhile slash).length s.length then(dCp,false,())
 else bif (iG (aO 0 (s.takeWhile slash).length s)).2.1 then(⟨(iG (aO 0 (s.takeWhile slash).length s)).1,(iG (aO ((s.takeWhile slash).length+1) s.length s)).1⟩,(iG (aO ((s.takeWhile slash).length+1) s.length s)).2.1,())
 else(⟨(iG (aO 0 (s.takeWhile slash).length s)).1,(iG (aO ((s.takeWhile slash).length+1) s.length s)).1⟩,false,())
theorem zHk{s:B}(hn:s.length≤1000000):qDr s=true∧qCd s=qCC s:=zGh (by
 unfold qSP qCC
 refine aN (((s.takeWhile slash).length:Int),()) ?_ ?_
 ·refine qKY s (OfNat.ofNat 0:UInt8) (fun i=>(i,())) slash (fun i=>inl ((i:Int),())) (fun i hi=>?_) ?_
  ·have e1:decide (0≤(i:Int))=true:=by simp
   simp only[sS,aY hi,e1,aD hi (show s.length≤1000000000 by omega),slash]
   cases ((s.getD i (OfNat.ofNat 0:UInt8)).toNat:Int) != 47<;>rfl
  ·simp only[sS,bE]
 ·have hk:=qGg (l:=s) slash
  generalize (s.takeWhile slash).length=k at hk ⊢
  have e1:((k:Int)==(s.length:Int))=Nat.beq k s.length:=by
   cases h:Nat.beq k s.length with
   | true=>rw[Nat.beq_eq] at h;simp[h]
   | false =>
    simp
    intro h2
    have h3:k=s.length:=by omega
    rw[h3] at h
    simp at h
  refine aF ?_
  simp only[eG,cB,e1]
  cases h:Nat.beq k s.length with
  | true=>rfl
  | false =>
   have hlt:k<s.length:=by
    rcases iw k s.length with h2 | h2
    ·exact h2
    ·have: k=s.length:=by omega
     subst this;simp at h
   have e2:decide (0≤(k:Int))=true:=by simp
   have e3:decide ((k:Int)≤(s.length:Int))=true:=by simp;omega
   have e4:w64 ((k:Int)+1)=((k+1:Nat):Int):=by rw[dI]<;>omega
   have e5:inB ((k+1:Nat):Int) (s.length:Int) (s.length:Int)=true:=qDb.2 ⟨by omega,by omega,by omega⟩
   have h1:=qH1 (aO 0 k s)
   have h2:=qH1 (aO (k+1) s.length s)
   have e6:(k:Int).toNat=k:=di k
   have e7:((k+1:Nat):Int).toNat=k+1:=di _
   have e8:(s.length:Int).toNat=s.length:=di _
   simp only[dD,eG,cB,cond_false,cond_true,e2,e3,e4,e5,e6,e7,e8,h1.1,h1.2,h2.1,h2.2,fq]
   cases (iG (aO 0 k s)).2.1<;>rfl)
def qEc(v:Bool×List Cp)(x:B):Bool×List Cp:=bif v.1 then((qCC x).2.1,v.2++[(qCC x).1]) else v
def qMj:B:=[113,117,101,117,101]
def lQ(w:List B)(labels:Int):Qu×Bool×Unit :=
 bif (w.length:Int) != w64 (3+labels) then(dQu,false,())
 else bif !(w.getD 0 []==qMj) then(dQu,false,())
 else(⟨w.getD 1 [],((w.drop 3).foldl qEc ((iG (w.getD 2 [])).2.1,[])).2,(iG (w.getD 2 [])).1⟩,((w.drop 3).foldl qEc ((iG (w.getD 2 [])).2.1,[])).1,())
theorem zKm(l:List B)(c:List Cp):l.foldl qEc (false,c)=(false,c):=by
 induction l with
 | nil=>rfl
 | cons a l ih=>exact ih
theorem qT5:∀(l:List B) (v:Bool×List Cp),(l.foldl qEc v).2.length≤v.2.length+l.length
 | [],v=>df _
 | a::l,v=>by
  have ih:=qT5 l (qEc v a)
  have h:(qEc v a).2.length≤v.2.length+1:=by
   unfold qEc
   cases v.1 with
   | true=>simp
   | false=>exact jv _
  rw[List.foldl,dw];omega
theorem zHl{w:List B}{k:Nat}(hk:k≤1000)(hw:∀x∈w,x.length≤1000000):qAk w (k:Int)=true∧qFN w (k:Int)=lQ w (k:Int):=zGk (by
 unfold qSR lQ
 cases h1:(w.length:Int) != w64 (3+(k:Int)) with
 | true=>exact aF rfl
 | false =>
 have hl:w.length=3+k:=by
  have h2:(w.length:Int)=w64 (3+(k:Int)):=by simpa using h1
  rw[dI] at h2<;>omega
 have e0:decide (0<(w.length:Int))=true:=by simp;omega
 have e1:decide (1<(w.length:Int))=true:=by simp;omega
 have e2:decide (2<(w.length:Int))=true:=by simp;omega
 have hq:=qH1 (w.getD 2 [])
 have eb:([OfNat.ofNat 113,OfNat.ofNat 117,OfNat.ofNat 101,OfNat.ofNat 117,OfNat.ofNat 101]:B)=qMj:=rfl
 simp only[eY,cond_false,e0,e1,e2,hq.1,hq.2,fq,aW,eb]
 cases w.getD 0 []==qMj with
 | false=>exact aF rfl
 | true =>
 simp only[j6,eY,cond_false]
 generalize hR:(w.drop 3).foldl qEc ((iG (w.getD 2 [])).2.1,[])=R
 refine qX (fun st=>∃(j:Nat) (v:Bool×List Cp),st=(v.1,((3+j:Nat):Int),(w.getD 1 [],v.2,(iG (w.getD 2 [])).1,()),())∧j≤k∧v.2.length≤j∧((w.drop (3+j)).foldl qEc v)=R) (fun st=>(w.length-st.2.1).toNat) ?_ ⟨0,((iG (w.getD 2 [])).2.1,[]),rfl,cz _,df 0,hR⟩
 rintro _ ⟨j,v,rfl,hj,hv,hr⟩
 rcases iw (3+j) w.length with hlt | hge
 ·have hd:w.drop (3+j)=w.getD (3+j) []::w.drop (3+j+1):=by
   rw[kv hlt];simp[List.getD,hlt]
  obtain⟨v1,v2⟩:=v
  have hv:v2.length≤j:=hv
  cases v1 with
  | true =>
   left
   have hs:=zHk (hw _ (bL (d:=[]) hlt))
   have e3:aT (v2.length+1) 16=true:=dK (by omega) (by decide)
   have e4:w64 (((3+j:Nat):Int)+1)=((3+(j+1):Nat):Int):=by rw[dI]<;>omega
   rw[hd] at hr
   refine⟨((qCC (w.getD (3+j) [])).2.1,((3+(j+1):Nat):Int),(w.getD 1 [],v2++[(qCC (w.getD (3+j) [])).1],(iG (w.getD 2 [])).1,()),()),aF ?_,⟨j+1,((qCC (w.getD (3+j) [])).2.1,v2++[(qCC (w.getD (3+j) [])).1]),rfl,by omega,by simp;omega,hr⟩,by simp only[];omega⟩
   simp only[sS,aY hlt,bB hlt,hs.1,hs.2,e3,e4]
  | false =>
   right
   rw[zKm] at hr
   rw[←hr]
   refine aF ?_
   simp only[sS,aY hlt,eB]
 ·right
  have e0:decide (((3+j:Nat):Int)<(w.length:Int))=false:=by simp;omega
  rw[List.drop_eq_nil_of_le hge] at hr
  have hr:v=R:=hr
  rw[←hr]
  refine aF ?_
  simp only[sS,e0,eB])
theorem zCi{ρ:Type}{c:Cf}{q:Qu}(fl:Bool){k:Nat}(hk:k≤c.queues.length)(hn:c.queues.length≤16):(((need (decide ((0:Int)≤(k:Int))&&decide ((k:Int)≤(↑c.queues.length:Int))) (need (aT ((0:Nat)+List.length (@aO Qu (0:Nat) (Int.toNat (k:Int)) c.queues)) (48:Nat)) (need (((0:Nat)+List.length (@aO Qu (0:Nat) (Int.toNat (k:Int)) c.queues)).beq ([] ++ @aO Qu (0:Nat) (Int.toNat (k:Int)) c.queues).length) (ret (inl ([] ++ @aO Qu (0:Nat) (Int.toNat (k:Int)) c.queues,())))))).join fun(s_3:List Qu×Unit)=>need (((0:Nat)+s_3.1.length).beq s_3.1.length) (need (aT (s_3.1.length+(1:Nat)) (48:Nat)&&((0:Nat)+s_3.1.length).ble s_3.1.length) (need (slB (k:Int) (↑c.queues.length:Int) (↑c.queues.length:Int)) (need (((0:Nat)+(s_3.1.length+(1:Nat))).beq (@bF Qu (0:Nat) s_3.1.length s_3.1++[q]).length) (need (aT (s_3.1.length+(1:Nat)+List.length (@aO Qu (Int.toNat (k:Int)) (↑c.queues.length:Int).toNat c.queues)) (48:Nat)&&((0:Nat)+(s_3.1.length+(1:Nat))).ble (@bF Qu (0:Nat) s_3.1.length s_3.1++[q]).length) (need (((0:Nat)+(s_3.1.length+(1:Nat)+List.length (@aO Qu (Int.toNat (k:Int)) (↑c.queues.length:Int).toNat c.queues))).ble (@bF Qu (0:Nat) (s_3.1.length+(1:Nat)) (@bF Qu (0:Nat) s_3.1.length s_3.1++[q]) ++ @aO Qu (Int.toNat (k:Int)) (↑c.queues.length:Int).toNat c.queues).length) (ret (inl (fl,(Cf.mk c.labels (@aO Qu (0:Nat) ((0:Nat)+(s_3.1.length+(1:Nat)+List.length (@aO Qu (Int.toNat (k:Int)) (↑c.queues.length:Int).toNat c.queues))) (@bF Qu (0:Nat) (s_3.1.length+(1:Nat)) (@bF Qu (0:Nat) s_3.1.length s_3.1++[q]) ++ @aO Qu (Int.toNat (k:Int)) (↑c.queues.length:Int).toNat c.queues)),()),()))))))))):DT ((Bool×(Cf×Unit)×Unit) ⊕ ρ)).G (inl (fl,(⟨c.labels,(c.queues.take k++[q])++c.queues.drop k⟩,()),())):=by
 have hN:c.queues.length≤1000000000:=by omega
 refine aN (c.queues.take k,()) (aF (by have h:=zNf (ρ:=(Bool×(Cf×Unit)×Unit) ⊕ ρ) hk hN (show 48≤100000 by decide);simp only[fq] at h;exact h)) (aF ?_)
 have ht:(c.queues.take k).length≤16:=by rw[ed];omega
 have hd:(c.queues.drop k).length≤16:=by rw[il];omega
 simp only[zGM]
 generalize c.queues.take k=a at ht ⊢
 generalize c.queues.drop k=d at hd ⊢
 have e1:aT (a.length+1) 48=true:=dK (by omega) (by decide)
 have e2:aT (a.length+1+d.length) 48=true:=dK (by omega) (by decide)
 have e3:a.length+1=(a++[q]).length:=by simp
 have e4:@aO Qu 0 (a.length+1+d.length) ((a++[q])++d)=(a++[q])++d:=by rw[e3,←dh];exact eB _
 have e5:@bF Qu 0 (a.length+1) (a++[q])=a++[q]:=by rw[e3];exact pJ _
 have e6:=zGN hk
 simp only[sS,e1,e2,e4,e5,e6]
def qW0:B:=[108,97,98,101,108,115]
def at5(c:Cf)(q:Qu):Nat:=(c.queues.takeWhile fun x=>Op.bytesLess x.path q.path).length
def qEd(v:Bool×Cf)(line:B):(Bool×Cf) ⊕ Int :=
 bif ((jH line).length:Int)==0 then .inl v
 else bif (v.2.labels.length:Int)==0 then
  (bif !((jH line).getD 0 []==qW0) then .inr 6 else bif decide (((jH line).length:Int)>3) then .inr 4 else .inl (v.1,⟨[]::(jH line).drop 1,v.2.queues⟩))
 else bif (v.2.queues.length:Int)==16&&(jH line).getD 0 []==qMj then .inr 4
 else bif !(lQ (jH line) (v.2.labels.length:Int)).2.1 then .inr 6
 else .inl (v.1||decide ((at5 v.2 (lQ (jH line) (v.2.labels.length:Int)).1:Int)<(v.2.queues.length:Int))&&(v.2.queues.getD (at5 v.2 (lQ (jH line) (v.2.labels.length:Int)).1) dQu).path==(lQ (jH line) (v.2.labels.length:Int)).1.path,
  ⟨v.2.labels,(v.2.queues.take (at5 v.2 (lQ (jH line) (v.2.labels.length:Int)).1)++[(lQ (jH line) (v.2.labels.length:Int)).1])++v.2.queues.drop (at5 v.2 (lQ (jH line) (v.2.labels.length:Int)).1)⟩)
def fH(s:B):Cf×Int×Unit :=
 bif decide ((s.length:Int)>2000) then(dCf,5,())
 else Sum.elim (fun v=>bif (v.2.labels.length:Int)==0 then(dCf,6,()) else bif v.1 then(dCf,7,()) else(v.2,0,())) (fun e=>(dCf,e,())) (goE qEd (qLt s 10) (false,dCf))
structure qBt(c:Cf):Prop where
 labels:c.labels.length≤3
 queues:c.queues.length≤16
 lab:∀l∈c.labels,l.length≤2000
 qu:∀q∈c.queues,q.caps.length≤3∧q.path.length≤2000
theorem qOh{w:List B}{n:Int}(h:(w.getD 0 []==qMj)=false):(lQ w n).2.1=false:=by
 unfold lQ
 rw[h]
 cases (w.length:Int) != w64 (3+n)<;>rfl
theorem qT6{w:List B}{k:Nat}(hk:k≤3)(hw:∀x∈w,x.length≤2000):(lQ w (k:Int)).1.caps.length≤3∧(lQ w (k:Int)).1.path.length≤2000:=by
 unfold lQ
 cases h1:(w.length:Int) != w64 (3+(k:Int)) with
 | true=>exact⟨cz _,cz _⟩
 | false =>
 cases w.getD 0 []==qMj with
 | false=>exact⟨cz _,cz _⟩
 | true =>
 have hl:w.length=3+k:=by
  have h2:(w.length:Int)=w64 (3+(k:Int)):=by simpa using h1
  rw[dI] at h2<;>omega
 refine⟨?_,hw _ (bL (by omega))⟩
 have:= qT5 (w.drop 3) ((iG (w.getD 2 [])).2.1,[])
 rw[il] at this
 simp only[gq] at this
 show((w.drop 3).foldl qEc ((iG (w.getD 2 [])).2.1,[])).2.length≤3
 omega
theorem qLw{v:Bool×Cf}{line:B}(h:qBt v.2)(hl:line.length≤2000):Sum.elim (fun t=>qBt t.2) (fun _=>True) (qEd v line):=by
 have hw:=qLv line
 have hw2:∀x∈jH line,x.length≤2000:=fun x hx=>bq (hw.2 x hx) hl
 unfold qEd
 generalize jH line=w at hw2 ⊢
 cases hz:(w.length:Int)==0 with
 | true=>exact h
 | false =>
 have hpos:0<w.length:=by
  rcases l5 w.length with e | e
  ·rw[e] at hz;cases hz
  ·exact e
 cases (v.2.labels.length:Int)==0 with
 | true =>
  cases w.getD 0 []==qW0 with
  | false=>trivial
  | true =>
   cases h3:decide ((w.length:Int)>3) with
   | true=>trivial
   | false =>
    have h3:w.length≤3:=by simp at h3;omega
    refine⟨by simp[il];omega,h.queues,fun l hl=>?_,h.qu⟩
    rcases fo.1 hl with e | e
    ·rw[e];exact cz _
    ·exact hw2 l (ve e)
 | false =>
  cases hq:(v.2.queues.length:Int)==16&&w.getD 0 []==qMj with
  | true=>trivial
  | false =>
   cases hb:(lQ w (v.2.labels.length:Int)).2.1 with
   | false=>trivial
   | true =>
    have h16:v.2.queues.length≤15:=by
     cases h16:(v.2.queues.length:Int)==16 with
     | false=>have:= h.queues;simp at h16;omega
     | true =>
      rw[h16,jl] at hq
      rw[qOh hq] at hb;cases hb
    have hr:=qT6 (k:=v.2.labels.length) h.labels hw2
    refine⟨h.labels,?_,h.lab,fun q hq=>?_⟩
    ·show((v.2.queues.take _++[_])++v.2.queues.drop _).length≤16
     simp only[dh,ed,il,gz];omega
    ·rcases dz.1 hq with e | e
     ·rcases dz.1 e with e | e
      ·exact h.qu q (rq e)
      ·rw[ib.1 e];exact hr
     ·exact h.qu q (ve e)
theorem qIo(s:B):qBt (fH s).1:=by
 have h0:qBt dCf:=⟨cz _,cz _,fun l h=>(by cases h),fun q h=>(by cases h)⟩
 unfold fH
 cases hs:decide ((s.length:Int)>2000) with
 | true=>exact h0
 | false =>
  have hs:s.length≤2000:=by simp at hs;omega
  have:= pX (f:=qEd) (fun v=>qBt v.2) (fun _=>True) (qLt s 10) (fun v l hl hv=>qLw hv (bq ((qGs s 10).2 l hl) hs)) (b:=(false,dCf)) h0
  revert this
  cases goE qEd (qLt s 10) (false,dCf) with
  | inr e=>exact fun _=>h0
  | inl v =>
   intro hv
   simp only[Sum.elim_inl,cond_false]
   cases (v.2.labels.length:Int)==0 with
   | true=>exact h0
   | false =>
    cases v.1 with
    | true=>exact h0
    | false=>exact hv
theorem qBt.n{c:Cf}(h:qBt c):CfN 1000000 c:=⟨bq h.labels (by decide),bq h.queues (by decide),fun q hq=>⟨bq (h.qu q hq).1 (by decide),bq (h.qu q hq).2 (by decide)⟩⟩
theorem zHm(s:B):qD0 s=true∧qFR s=fH s:=zGp (by
 unfold qSU fH
 cases hs:decide ((s.length:Int)>2000) with
 | true=>exact aF rfl
 | false =>
 have hs:s.length≤2000:=by simp at hs;omega
 have hc:=zHi 10 (show s.length≤1000000 by omega)
 have hcl:=qGs s 10
 simp only[eY,cond_false,hc.1,hc.2,aW]
 generalize qLt s 10=L at hcl ⊢
 have hL:L.length≤1000000000:=by omega
 have h0:qBt dCf:=⟨cz _,cz _,fun l h=>(by cases h),fun q h=>(by cases h)⟩
 have main:∀T,T.G (Sum.elim (fun v:Bool×Cf=>inl (v.1,(v.2,()),())) (fun e=>inr (dCf,e,())) (goE qEd L (false,dCf)):(Bool×(Cf×Unit)×Unit) ⊕ (Cf×Int×Unit)) →
   (join T fun s_1:Bool×(Cf×Unit)×Unit=>br ((s_1.2.1.1.labels.length:Int)==0) (ret (dCf,6,())) (br s_1.1 (ret (dCf,7,())) (ret (s_1.2.1.1,0,())))).G (Sum.elim (fun v=>bif (v.2.labels.length:Int)==0 then(dCf,6,()) else bif v.1 then(dCf,7,()) else(v.2,0,())) (fun e=>(dCf,e,())) (goE qEd L (false,dCf))):=by
  intro T hT
  revert hT
  cases goE qEd L (false,dCf) with
  | inl v=>exact fun hT=>aN _ hT (aF (by simp only[Sum.elim_inl,eG,cB];cases (v.2.labels.length:Int)==0<;>cases v.1<;>rfl))
  | inr e=>exact fun hT=>uT hT
 refine main _ ?_
 clear main
 refine zHd L [] (fun i (v:Bool×Cf)=>(v.1,i,(v.2,()),())) qEd (fun v=>inl (v.1,(v.2,()),())) (fun e=>inr (dCf,e,())) (fun _ v=>qBt v.2) (fun i v hi hv=>?_) (fun v hv=>aF (by simp only[sS,bE])) (b0:=(false,dCf)) h0
 have hv:qBt v.2:=hv
 have hline:=bq (hcl.2 _ (bL (d:=[]) hi)) hs
 have hr:=qLw hv hline
 obtain⟨tw,c⟩:=v
 have hv:qBt c:=hv
 have hwq:=zHj (show(L.getD i []).length≤1000000 by omega)
 have hw:=qLv (L.getD i [])
 have hww:∀x∈jH (L.getD i []),x.length≤2000:=fun x hx=>bq (hw.2 x hx) hline
 have hwl:(jH (L.getD i [])).length≤2001:=by omega
 simp only[aY hi,bB hi,jQ,mE,hwq.1,hwq.2,di,aD hi hL]
 unfold qEd at hr ⊢
 simp only[] at hr ⊢
 generalize jH (L.getD i [])=w at hww hwl hr ⊢
 cases hz:(w.length:Int)==0 with
 | true =>
  simp only[tT,cond_true]
  exact⟨hv,aF (by simp only[sS])⟩
 | false =>
 have hpos:0<w.length:=by
  rcases l5 w.length with e | e
  ·rw[e] at hz;cases hz
  ·exact e
 have ep:decide (0<(w.length:Int))=true:=by simp;omega
 rw[hz] at hr
 simp only[tV,cond_false] at hr ⊢
 cases hlz:(c.labels.length:Int)==0 with
 | true =>
  rw[hlz] at hr
  simp only[tT,cond_true,ep,fq,mE] at hr ⊢
  have el:([OfNat.ofNat 108,OfNat.ofNat 97,OfNat.ofNat 98,OfNat.ofNat 101,OfNat.ofNat 108,OfNat.ofNat 115]:B)=qW0:=rfl
  rw[el]
  cases hlb:w.getD 0 []==qW0 with
  | false =>
   simp only[o7,tT,cond_true]
   exact aF (by simp only[sS])
  | true =>
   rw[hlb] at hr
   simp only[j6,tV,cond_false] at hr ⊢
   cases h3:decide ((w.length:Int)>3) with
   | true =>
    simp only[tT,cond_true]
    exact aF (by simp only[sS])
   | false =>
    rw[h3] at hr
    simp only[tV,cond_false] at hr ⊢
    have h3':w.length≤3:=by simp at h3;omega
    have e1:decide ((1:Int)≤(w.length:Int))=true:=by simp;omega
    have e2:decide ((w.length:Int)≤(w.length:Int))=true:=by simp
    have e3:@aO B 1 w.length w=w.drop 1:=wG 1 w
    have hd:(w.drop 1).length≤2:=by rw[il];omega
    refine⟨hr,?_⟩
    simp only[e1,e2,fq,mE,di,e3]
    generalize w.drop 1=d at hd ⊢
    cases d with
    | nil =>
     have e4:(bG [([]:B)] 1 [])=[[]]:=rfl
     refine aF ?_
     simp only[sS,e4]
     rfl
    | cons a d =>
     have e4:aT (1+(a::d).length) 16=true:=dK (by omega) (by decide)
     have e5:Nat.ble (1+(a::d).length) 1=false:=Bool.eq_false_iff.2 fun h=>by have:= qHb.1 h;simp at this;omega
     have e6:Nat.ble (0+(1+(a::d).length)) ([[]]++(a::d)).length=true:=by simp;omega
     have e7:@aO B 0 (0+(1+(a::d).length)) ([[]]++(a::d))=[]::a::d:=by
      have: 0+(1+(a::d).length)=([[]]++(a::d):List B).length:=by simp;omega
      rw[this,eB];rfl
     refine aF ?_
     simp only[e5,eG,dD,cB,jM,cond_false,e4,e6,e7,fq,cond_true,iB]
 | false =>
 rw[hlz] at hr
 have hk:c.labels.length≤1000:=bq hv.labels (by decide)
 have hqq:=zHl hk (fun x hx=>bq (hww x hx) (by decide))
 have eb:([OfNat.ofNat 113,OfNat.ofNat 117,OfNat.ofNat 101,OfNat.ofNat 117,OfNat.ofNat 101]:B)=qMj:=rfl
 simp only[tV,cond_false,ep,fq,hqq.1,hqq.2,eb] at hr ⊢
 have hno:(w.getD 0 []==qMj)=false→(lQ w (c.labels.length:Int)).2.1=false:=qOh
 generalize lQ w (c.labels.length:Int)=Q at hr hno ⊢
 cases h16:(c.queues.length:Int)==16 with
 | false =>
  rw[h16] at hr
  simp only[l9,cond_false,tV,mE] at hr ⊢
  obtain⟨q,ok,u⟩:=Q
  cases ok with
  | false =>
   simp only[o7,tT,cond_true]
   exact aF (by simp only[sS])
  | true =>
  simp only[j6,tV,cond_false] at hr ⊢
  refine⟨hr,?_⟩
  clear hr
  refine aN ((tw||decide ((at5 c q:Int)<(c.queues.length:Int))&&(c.queues.getD (at5 c q) dQu).path==q.path),(⟨c.labels,(c.queues.take (at5 c q)++[q])++c.queues.drop (at5 c q)⟩,()),()) ?_ (aF rfl)
  have hk5:at5 c q≤c.queues.length:=qGg _
  refine aN ((at5 c q:Int),()) ?_ ?_
  ·unfold at5
   refine qKY c.queues dQu (fun i=>(i,())) (fun x=>Op.bytesLess x.path q.path) (fun i=>inl ((i:Int),())) (fun j hj=>?_) ?_
   ·simp only[sS,aY hj,bB hj,aD hj (show c.queues.length≤1000000000 by have:= hv.queues;omega)]
    cases Op.bytesLess (c.queues.getD j dQu).path q.path<;>rfl
   ·simp only[sS,bE]
  ·generalize at5 c q=k at hk5 ⊢
   cases tw with
   | true=>simp only[w9,jQ];exact zCi true hk5 hv.queues
   | false =>
    simp only[ou,eY]
    cases hlt:decide ((k:Int)<(c.queues.length:Int)) with
    | false=>simp only[l9,eY];exact zCi false hk5 hv.queues
    | true =>
     have hlt:k<c.queues.length:=by simp at hlt;omega
     simp only[jl,jQ,bB hlt,aW]
     exact zCi ((c.queues.getD k dQu).path==q.path) hk5 hv.queues
 | true =>
  rw[h16] at hr
  simp only[jl,tT,mE] at hr ⊢
  cases h0q:w.getD 0 []==qMj with
  | true =>
   simp only[cond_true,tT]
   exact aF (by simp only[sS])
  | false =>
   rw[h0q] at hr
   simp only[cond_false,tV,mE] at hr ⊢
   obtain⟨q,ok,u⟩:=Q
   cases ok with
   | false =>
    simp only[o7,tT,cond_true]
    exact aF (by simp only[sS])
   | true =>
   simp only[j6,tV,cond_false] at hr ⊢
   refine⟨hr,?_⟩
   clear hr
   refine aN ((tw||decide ((at5 c q:Int)<(c.queues.length:Int))&&(c.queues.getD (at5 c q) dQu).path==q.path),(⟨c.labels,(c.queues.take (at5 c q)++[q])++c.queues.drop (at5 c q)⟩,()),()) ?_ (aF rfl)
   have hk5:at5 c q≤c.queues.length:=qGg _
   refine aN ((at5 c q:Int),()) ?_ ?_
   ·unfold at5
    refine qKY c.queues dQu (fun i=>(i,())) (fun x=>Op.bytesLess x.path q.path) (fun i=>inl ((i:Int),())) (fun j hj=>?_) ?_
    ·simp only[sS,aY hj,bB hj,aD hj (show c.queues.length≤1000000000 by have:= hv.queues;omega)]
     cases Op.bytesLess (c.queues.getD j dQu).path q.path<;>rfl
    ·simp only[sS,bE]
   ·generalize at5 c q=k at hk5 ⊢
    cases tw with
    | true=>simp only[w9,jQ];exact zCi true hk5 hv.queues
    | false =>
     simp only[ou,eY]
     cases hlt:decide ((k:Int)<(c.queues.length:Int)) with
     | false=>simp only[l9,eY];exact zCi false hk5 hv.queues
     | true =>
      have hlt:k<c.queues.length:=by simp at hlt;omega
      simp only[jl,jQ,bB hlt,aW]
      exact zCi ((c.queues.getD k dQu).path==q.path) hk5 hv.queues)
end Go.Proofs.YtlmkakccmpncjaaGreatDoor
