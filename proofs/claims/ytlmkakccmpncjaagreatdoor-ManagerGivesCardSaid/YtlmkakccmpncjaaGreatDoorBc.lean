/- Part of the proof: texts Be Bf. No conditions. -/
import Derived.Test.YtlmkakccmpncjaaGreatDoorBb
set_option linter.all false
namespace Go.Proofs.YtlmkakccmpncjaaGreatDoor
open Go Go.W Go.Proofs
open Go.W.DT (ret need br bad loop join)
set_option maxRecDepth 100000
theorem nM{α β σ ρ:Type}(l:List α)(d:α)(enc:Int→β→σ){body:σ→DT (σ ⊕ ρ)}(f:β→α→β)(fin:β→ρ)(I:Nat→β→Prop)
  (hstep:∀(i:Nat) (b:β),i<l.length→I i b→I (i+1) (f b (l.getD i d))∧(body (enc (i:Int) b)).G (.inl (enc ((i+1:Nat):Int) (f b (l.getD i d)))))
  (hend:∀b,I l.length b→(body (enc (l.length:Int) b)).G (.inr (fin b))) {b0:β} (h0:I 0 b0):(DT.loop (enc 0 b0) body).G (fin (l.foldl f b0)) :=
 iU l d enc (fun b a=>.inl (f b a)) fin I (fun i b hi hI=>hstep i b hi hI) hend h0 (bM f fin l b0)
def eOu(e:Int):Ou:=⟨e,[],[],[],0⟩
def wT(s:Se)(id state:Int):Se×Ou :=
 bif !(aB s id).2 then(s,eOu 2) else bif !live (aB s id).1 then(s,eOu 14) else((qBV s id state).1,⟨0,[],[],(qBV s id state).2,0⟩)
theorem qTp{s:Se}(id state:Int)(h:SeN 999999999 s):qAh s id state=true∧qAi s id state=((wT s id state).1,(wT s id state).2,()):=zGg (by
 unfold qSO wT eOu
 refine aF ?_
 simp only[sS,aK,aM.2 (h.ok (by decide)),uW.2 h,(lM _).1,(lM _).2]
 grind)
def qGf(labels:Int)(v:List Ak)(x:Ak):List Ak ⊕ (List Ak×Int×Unit) :=
 bif qAR x labels != 0 then .inr ([],qAR x labels,()) else bif (qF7 v x).2 != 0 then .inr ([],(qF7 v x).2,()) else .inl (qF7 v x).1
def vB(labels:Int)(l more:List Ak):List Ak×Int×Unit:=scan (qGf labels) (fun v=>(v,0,())) more l
theorem qNQ(l:List Ak)(x:Ak):(qF7 l x).1.length≤8:=by
 unfold qF7
 dsimp only
 generalize (bif !(l.foldl (qBr x) ([],x.count==0)).2 then(l.foldl (qBr x) ([],x.count==0)).1++[{ x with missed:=0 }] else(l.foldl (qBr x) ([],x.count==0)).1)=out
 cases hc:decide ((out.length:Int)>8) with
 | true=>exact cz _
 | false=>simp at hc;simp only[cond_false];omega
theorem zBW{s:Se}{l more:List Ak}(hl:l.length≤1000000000)(hm:more.length≤1000000000):qAT s l more=true∧qDm s l more=vB (s.conf.labels.length:Int) l more:=zB6 (by
 unfold qN1
 refine mR more dAk (fun i (v:List Ak)=>(v,i,())) (qGf (s.conf.labels.length:Int)) (fun v=>(v,0,())) (fun _ v=>v.length≤1000000000) (fun i v hi hI=>?_) (fun v hI=>?_) (b0:=l) hl rfl
 ·have h8:=qNQ v (more.getD i dAk)
  simp only[sS,bB hi,aY hi,aD hi hm,aK,eH.2 hI,qGf]
  cases h1:qAR (more.getD i dAk) (s.conf.labels.length:Int) != 0 with
  | true=>rfl
  | false =>
   cases h2:(qF7 v (more.getD i dAk)).2 != 0 with
   | true=>rfl
   | false=>exact⟨bq h8 (by decide),rfl⟩
 ·simp only[sS,bE])
theorem qIg{labels:Int}:∀{more l:List Ak},(vB labels l more).1.length≤max l.length 8
 | [],l=>Nat.le_max_left _ _
 | x::more,l=>by
  unfold vB
  simp only[scan]
  unfold qGf
  cases qAR x labels != 0 with
  | true=>exact cz _
  | false =>
   cases (qF7 l x).2 != 0 with
   | true=>exact cz _
   | false =>
    have h1:=qIg (labels:=labels) (more:=more) (l:=(qF7 l x).1)
    have h2:=qNQ l x
    refine bq h1 ?_
    omega
def zGI(c:Cf)(label:Int)(least:Bool)(p:B):Int:=bif least then((dM c p).1.caps.getD label.toNat dCp).least else((dM c p).1.caps.getD label.toNat dCp).most
def gG(s:Se)(path:B)(label:Int)(least:Bool):Vec :=
 bif !(dM s.conf path).2||decide (label<0)||decide (label≥(s.conf.labels.length:Int)) then gQ
 else(up6 path).dropLast.reverse.foldl (fun v p=>(qCu v (zGI s.conf label least p)).1) (gB s label)
def qHw(c:Cf):Prop:=∀path:B,(dM c path).2=true→∀p∈(up6 path).dropLast,c.labels.length≤(dM c p).1.caps.length
theorem yB{s:Se}{path:B}(label:Int)(least:Bool)(h:dH s)(hu:qHw s.conf)(hp:path.length≤1000000000):lL s path label least=true∧pQ s path label least=(gG s path label least,()):=zJL (by
 unfold qY7 gG
 have hc:CfN 1000000000 s.conf:=⟨h.labels,h.queues,h.qu⟩
 refine aH (kU.2 hc) ?_
 simp only[aK]
 cases h1:(dM s.conf path).2 with
 | false=>rfl
 | true =>
 refine aV rfl ?_
 cases h2:decide (label<0) with
 | true=>rfl
 | false =>
 refine aV rfl ?_
 cases h3:decide (label≥(s.conf.labels.length:Int)) with
 | true=>rfl
 | false =>
 refine aV rfl (aH (aM.2 h) (aH (eH.2 hp) ?_))
 simp only[j6,oq,cond_false]
 have hlen:(up6 path).length≤1000000000:=bq (qPA _) hp
 have hH:=hu path h1
 have hlab:0≤label∧label<(s.conf.labels.length:Int):=by simp at h2 h3;omega
 generalize hL:(up6 path).dropLast=L at hH ⊢
 have hLl:L.length=(up6 path).length-1:=by rw[←hL,List.length_dropLast]
 have hget:∀k,k<L.length→(up6 path).getD k []=L.getD k []:=by
  intro k hk
  rw[←hL] at hk ⊢
  rw[List.length_dropLast] at hk
  simp only[List.getD,List.getElem?_dropLast,if_pos hk]
 refine qX (fun st=>∃(i:Int) (v:Vec),st=(i,(v,()),())∧i<(L.length:Int)∧-2≤i∧(L.take (i+1).toNat).reverse.foldl (fun v p=>(qCu v (zGI s.conf label least p)).1) v=L.reverse.foldl (fun v p=>(qCu v (zGI s.conf label least p)).1) (gB s label)) (fun st=>(st.1+2).toNat) ?_ ⟨w64 (((up6 path).length:Int)-2),gB s label,rfl,?_⟩
 ·rintro _ ⟨i,v,rfl,hi1,hi2,hv⟩
  by_cases hi:0≤i
  ·left
   obtain⟨k,rfl⟩:∃k:Nat,i=(k:Int):=⟨i.toNat,by omega⟩
   have hk:k<L.length:=by omega
   have hk2:k<(up6 path).length:=by omega
   have hm:L.getD k []∈L:=bL hk
   have hcl:=hH _ hm
   have e1:ixB label ((dM s.conf (L.getD k [])).1.caps.length:Int)=true:=iT.2 ⟨by omega,by omega⟩
   have e2:decide ((k:Int)≥0)=true:=by simp
   have e3:w64 ((k:Int)-1)=(k:Int)-1:=by rw[dI]<;>omega
   refine⟨((k:Int)-1,((qCu v (zGI s.conf label least (L.getD k []))).1,()),()),aF ?_,⟨(k:Int)-1,_,rfl,by omega,by omega,?_⟩,by simp only[];omega⟩
   ·simp only[sS,e2,e3,bB hk2,hget k hk,kU.2 hc,e1,(qGe _ _).1,(qGe _ _).2,zGI]
    cases least<;>rfl
   ·rw[←hv]
    have e4:((k:Int)-1+1).toNat=k:=by omega
    have e5:((k:Int)+1).toNat=k+1:=by omega
    rw[e4,e5]
    have e6:L.take (k+1)=L.take k++[L.getD k []]:=by
     rw[List.take_add_one]
     simp[List.getD,hk]
    rw[e6,List.reverse_append,List.reverse_singleton,List.singleton_append,lu]
  ·right
   refine aF ?_
   have e2:decide (i≥0)=false:=by simp;omega
   have e3:(i+1).toNat=0:=by omega
   rw[e3] at hv
   simp only[List.take_zero,List.reverse_nil,List.foldl_nil] at hv
   simp only[sS,e2,hv]
 ·have e:w64 (((up6 path).length:Int)-2)=((up6 path).length:Int)-2:=by rw[dI]<;>omega
  rw[e]
  refine⟨by omega,by omega,?_⟩
  have e2:L.take (((up6 path).length:Int)-2+1).toNat=L:=by
   apply kz
   omega
  rw[e2])
def zGJ(s:Se)(path:B)(label:Int):Vec:=bif !(dM s.conf path).2 then gQ else(qCu (gG s path label true) (dM s.conf path).1.user).1
theorem zKg{s:Se}{path:B}(label:Int)(h:dH s)(hu:qHw s.conf)(hp:path.length≤1000000000):qFT s path label=true∧qIO s path label=(zGJ s path label,()):=zJO (by
 unfold qYA zGJ
 have hc:CfN 1000000000 s.conf:=⟨h.labels,h.queues,h.qu⟩
 have hd:=yB label true h hu hp
 refine aF ?_
 simp only[sS,aK,kU.2 hc,hd.1,hd.2,(qGe _ _).1,(qGe _ _).2]
 grind)
def qCw(s:Se)(leaf:B)(a:Ak):Bool:=oC (fQ (gL s leaf a.label true 0) a.size) (gG s leaf a.label true)
theorem qYU{s:Se}{leaf:B}(a:Ak)(h:dH s)(hu:qHw s.conf)(hp:leaf.length≤1000000000):qCg s leaf a=true∧qFP s leaf a=(qCw s leaf a,()):=zJM (by
 unfold qY8 qCw
 have hd:=yB a.label true h hu hp
 have hs:=nD leaf a.label true 0 h
 refine aF ?_
 simp only[sS,hd.1,hd.2,hs.1,hs.2,oC,fQ]
 grind)
def qBf(s:Se)(leaf:B)(label user:Int):Bool:=oC (gL s leaf label false user) (zGJ s leaf label)
theorem qTq{s:Se}{leaf:B}(label user:Int)(h:dH s)(hu:qHw s.conf)(hp:leaf.length≤1000000000):qAo s leaf label user=true∧qCi s leaf label user=(qBf s leaf label user,()):=zGs (by
 unfold qSX qBf
 have hd:=zKg label h hu hp
 have hs:=nD leaf label false user h
 refine aF ?_
 simp only[sS,hd.1,hd.2,hs.1,hs.2,oC]
 grind)
def dZ:B:=[114,111,111,116]
theorem qCx:([OfNat.ofNat 114,OfNat.ofNat 111,OfNat.ofNat 111,OfNat.ofNat 116]:B)=dZ:=rfl
def zGK(a b:Vec):Vec:=⟨max (w64 (a.mem-b.mem)) 0,max (w64 (a.cores-b.cores)) 0⟩
def qBg(s:Se)(path:B)(label:Int)(size:Vec):Bool :=
 !((up6 path).any fun p=>!oC (fQ (gL s p label true 0) size) (gG s p label false)||p==dZ&&!oC (fQ (gL s p label true 0) size) (zGK (gB s label) (qRj s label)))
theorem zGL:∀(n:Nat) (p q:B),q∈upN n p→q.length≤p.length
 | 0,p,q,h=>by simp[upN] at h
 | n+1,p,q,h=>by
  unfold upN at h
  cases hp:p==[] with
  | true=>rw[hp] at h;simp at h
  | false =>
   rw[hp] at h
   have hp:p≠[]:=by simpa using hp
   simp only[cond_false,fo] at h
   rcases h with h | h
   ·rw[h];exact df _
   ·exact bq (zGL n _ _ h) (vz (qMX hp))
theorem qTr{s:Se}{path:B}(label:Int)(size:Vec)(h:dH s)(hu:qHw s.conf)(hp:path.length≤1000000000):qAm s path label size=true∧qCf s path label size=(qBg s path label size,()):=zGm (by
 unfold qST qBg
 refine aH (eH.2 hp) ?_
 simp only[aK]
 have hn:(up6 path).length≤1000000000:=bq (qPA _) hp
 refine qIe (up6 path) [] (fun i=>(i,())) (fun p=>!oC (fQ (gL s p label true 0) size) (gG s p label false)||p==dZ&&!oC (fQ (gL s p label true 0) size) (zGK (gB s label) (qRj s label))) (fun b=>(!b,())) (fun i hi=>?_) ?_
 ·have hpl:((up6 path).getD i []).length≤1000000000:=bq (zGL _ _ _ (bL hi)) hp
  have hd:=yB label false h hu hpl
  have hs:=nD ((up6 path).getD i []) label true 0 h
  simp only[sS,bB hi,aY hi,aD hi hn,hd.1,hd.2,hs.1,hs.2,aM.2 h,oC,fQ,zGK,qCx]
  generalize ((up6 path).getD i []==dZ)=isRoot
  grind [iB,iV]
 ·simp only[sS,bE])
def kW(s:Se)(a b:B)(label:Int):Bool :=
 let o:=zMW (gL s a label true 0) (gG s a label true) (gL s b label true 0) (gG s b label true)
 decide (o<0)||o==0&&Op.bytesLess a b
theorem zBX{s:Se}{a b:B}(label:Int)(h:dH s)(hu:qHw s.conf)(ha:a.length≤1000000000)(hb:b.length≤1000000000):qAY s a b label=true∧qDv s a b label=(kW s a b label,()):=zBC (by
 unfold qN7 kW
 have h1:=yB label true h hu ha
 have h2:=nD a label true 0 h
 have h3:=yB label true h hu hb
 have h4:=nD b label true 0 h
 refine aF ?_
 simp only[sS,h1.1,h1.2,h2.1,h2.2,h3.1,h3.2,h4.1,h4.2,(zGH _ _ _ _).1,(zGH _ _ _ _).2]
 grind)
end Go.Proofs.YtlmkakccmpncjaaGreatDoor
