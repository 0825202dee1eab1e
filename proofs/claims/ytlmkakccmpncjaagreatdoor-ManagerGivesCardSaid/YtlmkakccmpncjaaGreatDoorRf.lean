/- Part of the proof: texts Rq Rr Rs Ru Rv Rw. No conditions. -/
import Derived.Test.YtlmkakccmpncjaaGreatDoorRe
set_option linter.all false
noncomputable section
namespace Go.Proofs.YtlmkakccmpncjaaGreatDoor
open Go Go.W Go.Proofs
set_option maxRecDepth 100000
theorem qDZ:∀(l:List Ap) (v:Bool×List Ap),(l.foldl fC v).2.length≤v.2.length+l.length∧∀x∈(l.foldl fC v).2,x∈v.2∨x∈l
 | [],v=>⟨df _,fun x h=>.inl h⟩
 | a::l,v=>by
  obtain⟨h1,h2⟩:=qDZ l (fC v a)
  rw[List.foldl,dw]
  refine⟨?_,fun x hx=>?_⟩
  ·refine bq h1 ?_
   unfold fC
   cases !v.1&&!live a<;>simp<;>omega
  ·rcases h2 x hx with e | e
   ·unfold fC at e
    cases hc : !v.1&&!live a<;>rw[hc] at e
    ·rcases dz.1 e with e | e
     ·exact .inl e
     ·exact .inr (by rw[ib.1 e];exact j4)
    ·exact .inl e
   ·exact .inr (gy _ e)
theorem SeN.jN{n:Nat}{s:Se}(h:SeN n s):SeN n (jN s):=by
 obtain⟨h1,h2⟩:=qDZ s.apps (false,[])
 have h1:(Go.Proofs.YtlmkakccmpncjaaGreatDoor.jN s).apps.length≤0+s.apps.length:=h1
 refine⟨h.1,by have:= h.2;omega,h.3,h.4,h.5,h.6,h.7,fun a ha=>?_,h.9,h.10⟩
 rcases h2 a ha with e | e
 ·cases e
 ·exact h.8 a e
def mP(c:Cf)(path:B):Bool:=(dM c path).2&&((fG c path).length:Int)==0
theorem zJx{c:Cf}(path:B)(h:CfN 1000000000 c):(qP2 c path).G (mP c path,()):=by
 unfold qP2 mP
 refine aF ?_
 have h0:=kU.2 h
 cases hc:(dM c path).2<;>simp only[sS,aK,h0,hc]
def alive(l:List Ap):Int:=l.foldl (fun n a=>bif live a then w64 (n+1) else n) 0
def kH(s:Se)(a:Ap):Se×Int :=
 bif decide (a.id<0)||decide (a.id>9999)||decide (a.user<0)||decide (a.user>99)||decide (a.prio<0)||decide (a.prio>9)||!wK a.master.mem||!wK a.master.cores then(s,1)
 else bif (aB s a.id).2 then(s,7)
 else bif decide (alive s.apps≥16) then(s,4)
 else bif !mP s.conf a.queue then(s,19)
 else(dW (bif decide ((s.apps.length:Int)≥16) then jN s else s) ⟨a.id,1,a.queue,a.user,a.prio,a.master,xQ a,s.now,0,[],[],[],[]⟩,0)
theorem qVn{s:Se}(a:Ap)(h:SeN 1000000000 s):(qE2 s a).G ((kH s a).1,(kH s a).2,()):=by
 have ho:=h.ok (df _)
 have h0:=aM.2 ho
 have hf:=aM.2 (h.jN.ok (df _))
 have hcf:=kU.2 h.conf
 unfold qE2 kH
 simp only[aK]
 cases hc0:decide (a.id<0) with
 | true=>exact bW rfl rfl
 | false =>
 refine aV rfl ?_
 cases hc1:decide (a.id>9999) with
 | true=>exact bW rfl rfl
 | false =>
 refine aV rfl ?_
 cases hc2:decide (a.user<0) with
 | true=>exact bW rfl rfl
 | false =>
 refine aV rfl ?_
 cases hc3:decide (a.user>99) with
 | true=>exact bW rfl rfl
 | false =>
 refine aV rfl ?_
 cases hc4:decide (a.prio<0) with
 | true=>exact bW rfl rfl
 | false =>
 refine aV rfl ?_
 cases hc5:decide (a.prio>9) with
 | true=>exact bW rfl rfl
 | false =>
 refine aV rfl ?_
 cases hc6:wK a.master.mem with
 | false=>exact bW rfl rfl
 | true =>
 refine aV rfl ?_
 cases hc7:wK a.master.cores with
 | false=>exact bW rfl rfl
 | true =>
 refine aV rfl ?_
 refine qAJ.2 ⟨h0,?_⟩
 cases hc8:(aB s a.id).2 with
 | true=>exact bW rfl rfl
 | false =>
 refine aV rfl ?_
 refine aN (alive s.apps,()) (mR s.apps dAp (fun i (v:Int)=>(v,i,())) (fun v a=>.inl (bif live a then w64 (v+1) else v)) (fun v=>.inl (v,())) (fun _ _=>True) (fun i b hi _=>⟨trivial,?_⟩) (fun b _=>?_) (b0:=0) trivial (bM (fin:=fun(v:Int)=>Sum.inl (v,())) _ _ _)) ?_
 ·have h1:=aD hi ho.apps
  have hi1:ixB (i:Int) (s.apps.length:Int)=true:=iT.2 ⟨by have:= ho.apps;omega,by have:= ho.apps;omega⟩
  have hi2:decide ((i:Int)<(s.apps.length:Int))=true:=by simp;omega
  cases hd:(s.apps.getD i dAp).state==1<;>cases he:(s.apps.getD i dAp).state==2<;>simp only[sS,hi1,hi2,hd,he,h1,live]
 ·have hi2:decide ((s.apps.length:Int)<(s.apps.length:Int))=false:=by simp
  simp only[sS,hi2]
 ·refine aF ?_
  unfold mP
  cases hd:decide (alive s.apps≥16)<;>cases he:(dM s.conf a.queue).2<;>cases hk:((fG s.conf a.queue).length:Int)==0<;>cases hl:decide ((s.apps.length:Int)≥16)<;>simp only[sS,h0,hcf,hf,hd,he,hk,hl,show(jN s).now=s.now from rfl]
def qP3:TB:=con [.rcd 30,.str] [.bool] (fun a=>cfN 1000000000 a.1) (fun a=>(shut mP a.1 a.2.1,())) rfl
theorem qXY:aJ 111 qP3 :=
 row_of zEW (L:=noL) (J:=noL) (by kernel_rfl) rfl rfl fun a h=>Eq.mpr (zJw a.1 a.2.1 _) (by simp only[aK];exact zJx _ (kU.1 h))
def qE3:TB:=con [.rcd 37,.rcd 43] [.rcd 37,.int .i64] (fun a=>seN 1000000000 a.1) (fun a=>((shut kH a.1 a.2.1).1,(shut kH a.1 a.2.1).2,())) rfl
theorem qK3:aJ 42 qE3 :=
 row_of zEW (L:=qK1) (J:=qK2) (by kernel_rfl) rfl rfl fun a h=>Eq.mpr (qVm a.1 a.2.1 _) (by simp only[aK];exact qVn _ (uW.1 h))
def upN:Nat→B→List B
 | 0,_=>[]
 | n+1,p=>bif p==[] then[] else p::upN n (eO p)
def up6(p:B):List B:=upN p.length p
theorem qMX{p:B}(h:p≠[]):(eO p).length<p.length:=by
 have hp:0<p.length:=oh.2 h
 have hl:=qE1 p p.length
 unfold eO
 cases hc:decide (dY p p.length<0) with
 | true=>exact hp
 | false =>
  have h5:¬dY p p.length<0:=by simpa using hc
  simp only[cond_false,ed]
  omega
theorem zOS{path:B}(h:path.length≤1000000000):(zEL path).G (up6 path,()):=by
 unfold zEL
 have hsub:∀{α:Type} (m:List α),aO 0 m.length m=m:=fun m=>by rw[lV,iq]
 refine qX (fun s=>∃n l p,s=(l,p,())∧p.length≤n∧l.length+n≤1000000000∧l++upN n p=up6 path) (fun s=>s.2.1.length) ?_ ⟨path.length,[],path,rfl,df _,by simpa using h,rfl⟩
 rintro _ ⟨n,l,p,rfl,hp,hl,he⟩
 cases hc:p==[] with
 | true =>
  right
  have e0:p=[]:=by simpa using hc
  subst e0
  have e:upN n []=[]:=by cases n<;>rfl
  rw[e,lv] at he
  refine aF ?_
  simp only[sS,hsub,hc,he]
 | false =>
  left
  have hne:p≠[]:=by simpa using hc
  have hlt:=qMX hne
  have hpos:0<p.length:=oh.2 hne
  obtain⟨m,rfl⟩:∃m,n=m+1:=⟨n-1,by omega⟩
  have hs:sm p.length=true:=eH.2 (by omega)
  have hf:aT (l.length+1) 16=true:=fZ.2 ⟨by omega,by omega⟩
  refine⟨(l++[p],eO p,()),aF ?_,⟨m,l++[p],eO p,rfl,by omega,by simp;omega,?_⟩,hlt⟩
  ·simp only[sS,aK,hc,hs,hf]
  ·rw[←he]
   simp only[upN,hc,cond_false,mi,List.cons_append,l6]
def zEX:TB:=con [.str] [.dat 9] (fun a=>sm (List.length a.1)) (fun a=>(shut up6 a.1,())) rfl
theorem zLz:aJ 376 zEX :=
 row_of lI (L:=zLx) (J:=zLy) (by kernel_rfl) rfl rfl fun a h=>Eq.mpr (zOQ a.1 _) (by simp only[aK];exact zOS (eH.1 h))
def K4:Con aC.T:=fun f=>bV [(113,qDc),(375,qDd),(130,vL),(311,qHe),(387,qY),(138,zS),(378,qDf),(120,zT),(10,wH),(127,zU),(133,qZ),(114,qHi),(122,qDg),(383,zV),(131,rC),(264,zW),(382,vN),(115,qHj),(125,oM),(134,zX),(325,qHk),(128,oN),(277,qHl),(139,wI),(209,qKq),(379,qF8),(121,wJ),(206,qBT),(123,qDi),(119,qFA),(371,qDj),(312,qID),(116,qIE),(132,qIF),(315,qIG),(129,qIH),(117,qFB),(205,qII),(51,qIJ),(136,qFC),(124,qDl),(47,qFD),(40,xS),(208,qFE),(111,qP3),(42,qE3),(376,zEX)] f
theorem zOT:iH Tryz.prog K4:=aA qI8 (aA qI9 (aA qDe (aA qPg (aA qAK (aA qF1 (aA qIA (aA qF2 (aA qBN (aA qF3 (aA qAL (aA qPj (aA qIB (aA qF4 (aA qAP (aA qF5 (aA qDh (aA qPk (aA xO (aA qF6 (aA qPl (aA xP (aA qPm (aA qBS (aA qPn (aA qIC (aA qAQ (aA qF9 (aA qHp (aA qKw (aA qHq (aA qPv (aA qPw (aA qPx (aA qPy (aA qPz (aA qKx (aA qP0 (aA qP1 (aA qKy (aA qHs (aA qKz (aA qBW (aA qK0 (aA qXY (aA qK3 (aA zLz (eX)))))))))))))))))))))))))))))))))))))))))))))))
def hd4:Hd aC.T:=hdT aC Tryz.prog (fzC aC K4) (fun _=>false) 1000 5
theorem qVo:bI Tryz.prog hd4:=bU mixed hno (qOW zOT) _ _ _
end Go.Proofs.YtlmkakccmpncjaaGreatDoor
namespace Go.Proofs.YtlmkakccmpncjaaGreatDoor
open Go Go.W Go.Proofs
open Go.W.DT (ret need br bad loop join)
set_option maxRecDepth 100000
def qVp(a:Vec):DT (Bool×Unit) :=
 let +zeta b:=1125899906842624;br (decide (a.mem≥0)) (br (decide (a.mem≤b)) (br (decide (a.cores≥0)) (ret (decide (a.cores≤b),())) (ret (false,()))) (ret (false,()))) (ret (false,()))

theorem zMB(a:Vec)(r:(Bool×Unit)):(tree hd4 noL noL 458 [.rcd 40] [.bool] (a,())).G r=(qVp a).G r:=by kernel_rfl
def zEY(n:Int)(bp:Int):DT (Int×Unit) :=
 let +zeta a:=10000;ret (w64 (w64 (w64 (n.tdiv a)*bp)+w64 ((w64 (n.tmod a*bp)).tdiv a)),())

theorem zMC(n:Int)(bp:Int)(r:(Int×Unit)):(tree hd4 noL noL 459 [.int .i64,.int .i64] [.int .i64] (n,bp,())).G r=(zEY n bp).G r:=by kernel_rfl
def qP4(a:Int)(b:Int):DT (Int×Int×Unit) :=
 let +zeta i:=33554431;let +zeta f:=2 ^ 25;let +zeta e:=64;let +zeta h:=(↑(BitVec.ofInt e a &&& BitVec.ofInt e i).toNat:Int);let +zeta g:=(↑(BitVec.ofInt e b &&& BitVec.ofInt e i).toNat:Int);let +zeta d:=w64 (w64 (a.fdiv f*w64 g)+w64 (w64 h*b.fdiv f));let +zeta c:=w64 (w64 (w64 h*w64 g)+w64 (w64 (↑(BitVec.ofInt e d &&& BitVec.ofInt e i).toNat:Int)*2 ^ 25));ret (w64 (w64 (w64 (a.fdiv f*b.fdiv f)+d.fdiv f)+c.fdiv (2 ^ 50)),w64 (↑(BitVec.ofInt e c &&& BitVec.ofInt e 1125899906842623).toNat:Int),())

theorem zJy(a:Int)(b:Int)(r:(Int×Int×Unit)):(tree hd4 noL noL 521 [.int .i64,.int .i64] [.int .i64,.int .i64] (a,b,())).G r=(qP4 a b).G r:=by kernel_rfl
end Go.Proofs.YtlmkakccmpncjaaGreatDoor
namespace Go.Proofs.YtlmkakccmpncjaaGreatDoor
open Go Go.W Go.Proofs
set_option maxRecDepth 100000
def qE4(a:Vec):Bool:=decide (a.mem≥0)&&decide (a.mem≤1125899906842624)&&(decide (a.cores≥0)&&decide (a.cores≤1125899906842624))
theorem zMD(a:Vec):(qVp a).G (qE4 a,()):=by
 unfold qVp qE4
 refine aF ?_
 cases decide (a.mem≥0)<;>cases decide (a.mem≤1125899906842624)<;>cases decide (a.cores≥0)<;>rfl
def qR8(n bp:Int):Int:=w64 (w64 (w64 (n.tdiv 10000)*bp)+w64 ((w64 (n.tmod 10000*bp)).tdiv 10000))
theorem zME(n bp:Int):(zEY n bp).G (qR8 n bp,()):=rfl
def qMY(a:Int):Int:=w64 ((BitVec.ofInt 64 a &&& BitVec.ofInt 64 33554431).toNat:Int)
def zMF(a b:Int):Int:=w64 (w64 (a.fdiv (2 ^ 25)*qMY b)+w64 (qMY a*b.fdiv (2 ^ 25)))
def zMG(a b:Int):Int:=w64 (w64 (qMY a*qMY b)+w64 (qMY (zMF a b)*2 ^ 25))
def qFF(a b:Int):Int×Int :=
 (w64 (w64 (w64 (a.fdiv (2 ^ 25)*b.fdiv (2 ^ 25))+(zMF a b).fdiv (2 ^ 25))+(zMG a b).fdiv (2 ^ 50)),w64 ((BitVec.ofInt 64 (zMG a b) &&& BitVec.ofInt 64 1125899906842623).toNat:Int))
theorem zJz(a b:Int):(qP4 a b).G ((qFF a b).1,(qFF a b).2,()):=by
 unfold qP4 qFF zMG zMF qMY
 exact qHU.2 rfl
def zEZ:TB:=con [.rcd 40] [.bool] (fun a=>true) (fun a=>(shut qE4 a.1,())) rfl
theorem zMH:aJ 458 zEZ :=
 row_of qVo (L:=noL) (J:=noL) (by kernel_rfl) rfl rfl fun a h=>Eq.mpr (zMB a.1 _) (by simp only[aK];exact zMD _)
def zFa:TB:=con [.int .i64,.int .i64] [.int .i64] (fun a=>true) (fun a=>(shut qR8 a.1 a.2.1,())) rfl
theorem zMI:aJ 459 zFa :=
 row_of qVo (L:=noL) (J:=noL) (by kernel_rfl) rfl rfl fun a h=>Eq.mpr (zMC a.1 a.2.1 _) (by simp only[aK];exact zME _ _)
def qXZ:TB:=con [.int .i64,.int .i64] [.int .i64,.int .i64] (fun a=>true) (fun a=>((shut qFF a.1 a.2.1).1,(shut qFF a.1 a.2.1).2,())) rfl
theorem zJ0:aJ 521 qXZ :=
 row_of qVo (L:=noL) (J:=noL) (by kernel_rfl) rfl rfl fun a h=>Eq.mpr (zJy a.1 a.2.1 _) (by simp only[aK];exact zJz _ _)
end Go.Proofs.YtlmkakccmpncjaaGreatDoor
