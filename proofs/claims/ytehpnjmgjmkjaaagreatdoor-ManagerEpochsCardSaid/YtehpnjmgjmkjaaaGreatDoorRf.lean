/- Part of the proof. No conditions. -/
import Derived.Test.YtehpnjmgjmkjaaaGreatDoorRe
noncomputable section
namespace Go.Proofs.YtehpnjmgjmkjaaaGreatDoor
open Go Go.W Go.Proofs
set_option maxRecDepth 100000
theorem qDG:∀(l:List Ap) (v:Bool×List Ap),(l.foldl gJ v).2.length≤v.2.length+l.length∧∀x∈(l.foldl gJ v).2,x∈v.2∨x∈l
 | [],v=>⟨Nat.le_refl _,fun x h=>.inl h⟩
 | a::l,v=>by
  obtain⟨h1,h2⟩:=qDG l (gJ v a)
  rw[List.foldl,List.length_cons]
  refine⟨?_,fun x hx=>?_⟩
  ·refine Nat.le_trans h1 ?_
   unfold gJ
   cases !v.1&&!live a<;>simp<;>omega
  ·rcases h2 x hx with e | e
   ·unfold gJ at e
    cases hc : !v.1&&!live a<;>rw[hc] at e
    ·rcases List.mem_append.1 e with e | e
     ·exact .inl e
     ·exact .inr (by rw[List.mem_singleton.1 e];exact List.mem_cons_self)
    ·exact .inl e
   ·exact .inr (List.mem_cons_of_mem _ e)
theorem SeN.lQ{n:Nat}{s:Se}(h:SeN n s):SeN n (lQ s):=by
 obtain⟨h1,h2⟩:=qDG s.apps (false,[])
 have h1:(Go.Proofs.YtehpnjmgjmkjaaaGreatDoor.lQ s).apps.length≤0+s.apps.length:=h1
 refine⟨h.1,by have:= h.2;omega,h.3,h.4,h.5,h.6,h.7,fun a ha=>?_,h.9,h.10⟩
 rcases h2 a ha with e | e
 ·cases e
 ·exact h.8 a e
def nA(c:Cf)(path:B):Bool:=(dO c path).2&&((bO c path).length:Int)==0
theorem zGZ{c:Cf}(path:B)(h:CfN 1000000000 c):(qPW c path).G (nA c path,()):=by
 unfold qPW nA
 refine aF ?_
 have h0:=kW.2 h
 cases hc:(dO c path).2<;>simp only[sS,aN,h0,hc]
def alive(l:List Ap):Int:=l.foldl (fun n a=>bif live a then w64 (n+1) else n) 0
def lT(s:Se)(a:Ap):Se×Int :=
 bif decide (a.id<0)||decide (a.id>9999)||decide (a.user<0)||decide (a.user>99)||decide (a.prio<0)||decide (a.prio>9)||!vT a.master.mem||!vT a.master.cores then(s,1)
 else bif (aB s a.id).2 then(s,7)
 else bif decide (alive s.apps≥16) then(s,4)
 else bif !nA s.conf a.queue then(s,19)
 else(dQ (bif decide ((s.apps.length:Int)≥16) then lQ s else s) ⟨a.id,1,a.queue,a.user,a.prio,a.master,wT a,s.now,0,[],[],[],[]⟩,0)
theorem qVy{s:Se}(a:Ap)(h:SeN 1000000000 s):(qEh s a).G ((lT s a).1,(lT s a).2,()):=by
 have ho:=h.ok (Nat.le_refl _)
 have h0:=aO.2 ho
 have hf:=aO.2 (h.lQ.ok (Nat.le_refl _))
 have hcf:=kW.2 h.conf
 unfold qEh lT
 simp only[aN]
 cases hc0:decide (a.id<0) with
 | true=>exact fQ rfl rfl
 | false =>
 refine bN rfl ?_
 cases hc1:decide (a.id>9999) with
 | true=>exact fQ rfl rfl
 | false =>
 refine bN rfl ?_
 cases hc2:decide (a.user<0) with
 | true=>exact fQ rfl rfl
 | false =>
 refine bN rfl ?_
 cases hc3:decide (a.user>99) with
 | true=>exact fQ rfl rfl
 | false =>
 refine bN rfl ?_
 cases hc4:decide (a.prio<0) with
 | true=>exact fQ rfl rfl
 | false =>
 refine bN rfl ?_
 cases hc5:decide (a.prio>9) with
 | true=>exact fQ rfl rfl
 | false =>
 refine bN rfl ?_
 cases hc6:vT a.master.mem with
 | false=>exact fQ rfl rfl
 | true =>
 refine bN rfl ?_
 cases hc7:vT a.master.cores with
 | false=>exact fQ rfl rfl
 | true =>
 refine bN rfl ?_
 refine qA3.2 ⟨h0,?_⟩
 cases hc8:(aB s a.id).2 with
 | true=>exact fQ rfl rfl
 | false =>
 refine bN rfl ?_
 refine aT (alive s.apps,()) (lN s.apps dAp (fun i (v:Int)=>(v,i,())) (fun v a=>.inl (bif live a then w64 (v+1) else v)) (fun v=>.inl (v,())) (fun _ _=>True) (fun i b hi _=>⟨trivial,?_⟩) (fun b _=>?_) (b0:=0) trivial (bX (fin:=fun(v:Int)=>Sum.inl (v,())) _ _ _)) ?_
 ·have h1:=aG hi ho.apps
  have hi1:ixB (i:Int) (s.apps.length:Int)=true:=gZ.2 ⟨by have:= ho.apps;omega,by have:= ho.apps;omega⟩
  have hi2:decide ((i:Int)<(s.apps.length:Int))=true:=by simp;omega
  cases hd:(s.apps.getD i dAp).state==1<;>cases he:(s.apps.getD i dAp).state==2<;>simp only[sS,hi1,hi2,hd,he,h1,live]
 ·have hi2:decide ((s.apps.length:Int)<(s.apps.length:Int))=false:=by simp
  simp only[sS,hi2]
 ·refine aF ?_
  unfold nA
  cases hd:decide (alive s.apps≥16)<;>cases he:(dO s.conf a.queue).2<;>cases hk:((bO s.conf a.queue).length:Int)==0<;>cases hl:decide ((s.apps.length:Int)≥16)<;>simp only[sS,h0,hcf,hf,show(lQ s).now=s.now from rfl]
def qPX:TB:=con [.rcd 32,.str] [.bool] (fun a=>cfN 1000000000 a.1) (fun a=>(shut nA a.1 a.2.1,())) rfl
theorem qXH:aM 51 qPX :=
 row_of zD5 (L:=noL) (J:=noL) (by kernel_rfl) rfl rfl fun a h=>Eq.mpr (zGY a.1 a.2.1 _) (by simp only[aN];exact zGZ _ (kW.1 h))
def qEi:TB:=con [.rcd 39,.rcd 47] [.rcd 39,.int .i64] (fun a=>seN 1000000000 a.1) (fun a=>((shut lT a.1 a.2.1).1,(shut lT a.1 a.2.1).2,())) rfl
theorem qKo:aM 59 qEi :=
 row_of zD5 (L:=qKm) (J:=qKn) (by kernel_rfl) rfl rfl fun a h=>Eq.mpr (qVx a.1 a.2.1 _) (by simp only[aN];exact qVy _ (uD.1 h))
def upN:Nat→B→List B
 | 0,_=>[]
 | n+1,p=>bif p==[] then[] else p::upN n (eZ p)
def up6(p:B):List B:=upN p.length p
theorem qNl{p:B}(h:p≠[]):(eZ p).length<p.length:=by
 have hp:0<p.length:=List.length_pos_iff.2 h
 have hl:=qEg p p.length
 unfold eZ
 cases hc:decide (eT p p.length<0) with
 | true=>exact hp
 | false =>
  have h5:¬eT p p.length<0:=by simpa using hc
  simp only[cond_false,List.length_take]
  omega
theorem zLA{path:B}(h:path.length≤1000000000):(zDu path).G (up6 path,()):=by
 unfold zDu
 have hsub:∀{α:Type} (m:List α),aH 0 m.length m=m:=fun m=>by rw[mO,List.take_length]
 refine qP (fun s=>∃n l p,s=(l,p,())∧p.length≤n∧l.length+n≤1000000000∧l++upN n p=up6 path) (fun s=>s.2.1.length) ?_ ⟨path.length,[],path,rfl,Nat.le_refl _,by simpa using h,rfl⟩
 rintro _ ⟨n,l,p,rfl,hp,hl,he⟩
 cases hc:p==[] with
 | true =>
  right
  have e0:p=[]:=by simpa using hc
  subst e0
  have e:upN n []=[]:=by cases n<;>rfl
  rw[e,List.append_nil] at he
  refine aF ?_
  simp only[sS,hsub,he]
 | false =>
  left
  have hne:p≠[]:=by simpa using hc
  have hlt:=qNl hne
  have hpos:0<p.length:=List.length_pos_iff.2 hne
  obtain⟨m,rfl⟩:∃m,n=m+1:=⟨n-1,by omega⟩
  have hs:sm p.length=true:=eX.2 (by omega)
  have hf:aX (l.length+1) 16=true:=gI.2 ⟨by omega,by omega⟩
  refine⟨(l++[p],eZ p,()),aF ?_,⟨m,l++[p],eZ p,rfl,by omega,by simp;omega,?_⟩,hlt⟩
  ·simp only[sS,aN,hs,hf]
  ·rw[←he]
   simp only[upN,hc,cond_false,List.append_assoc,List.cons_append,List.nil_append]
def zD6:TB:=con [.str] [.dat 9] (fun a=>sm (List.length a.1)) (fun a=>(shut up6 a.1,())) rfl
theorem zI9:aM 390 zD6 :=
 row_of lS (L:=zI7) (J:=zI8) (by kernel_rfl) rfl rfl fun a h=>Eq.mpr (zL8 a.1 _) (by simp only[aN];exact zLA (eX.1 h))
def K4:Con aC.T:=fun f=>dH [(48,qCM),(109,qCN),(149,uR),(326,qGz),(401,qQ),(157,zB),(392,qCP),(47,zC),(17,zD),(146,zF),(152,qR),(134,qG2),(141,qCR),(397,zH),(150,qU),(279,zI),(396,uT),(135,qG3),(144,oQ),(153,zJ),(50,oU),(340,qG4),(147,oV),(292,qG5),(158,vQ),(111,qBD),(227,qKa),(393,qFl),(140,vR),(224,qBE),(142,qCT),(139,qFn),(386,qCU),(327,qI1),(136,qI2),(151,qI3),(330,qI4),(148,qI5),(137,qFo),(110,qI6),(68,qI7),(155,qFp),(143,qCW),(64,qFq),(57,wV),(226,qFr),(51,qPX),(59,qEi),(390,zD6)] f
theorem zLB:iL Tryz.prog K4:=aA qIw (aA qIx (aA qCO (aA qP9 (aA qA4 (aA qFd (aA qIy (aA qFe (aA qFf (aA qFg (aA qA5 (aA qPD (aA qIz (aA qFh (aA qA8 (aA qFi (aA qCS (aA qPE (aA wQ (aA qFj (aA wR (aA qPF (aA wS (aA qPG (aA qBC (aA qFk (aA qPH (aA qI0 (aA qA9 (aA qFm (aA qG9 (aA qKg (aA qGA (aA qPP (aA qPQ (aA qPR (aA qPS (aA qPT (aA qKi (aA qPU (aA qPV (aA qKj (aA qGC (aA qKk (aA qBG (aA qKl (aA qXH (aA qKo (aA zI9 (fH)))))))))))))))))))))))))))))))))))))))))))))))))
def hd4:Hd aC.T:=hdT aC Tryz.prog (fzC aC K4) (fun _=>false) 1000 5
theorem qVz:bJ Tryz.prog hd4:=bW mixed hno (qP0 zLB) _ _ _
end Go.Proofs.YtehpnjmgjmkjaaaGreatDoor
namespace Go.Proofs.YtehpnjmgjmkjaaaGreatDoor
open Go Go.W Go.Proofs
open Go.W.DT (ret need br bad loop join)
set_option maxRecDepth 100000
def qV0(a:Vec):DT (Bool×Unit) :=
 br (decide (a.mem≥(0:Int))) (br (decide (a.mem≤(1125899906842624:Int))) (br (decide (a.cores≥(0:Int))) (ret (decide (a.cores≤(1125899906842624:Int)),())) (ret (false,()))) (ret (false,()))) (ret (false,()))
theorem zJC(a:Vec)(r:(Bool×Unit)):(tree hd4 noL noL 472 [.rcd 27] [.bool] (a,())).G r=(qV0 a).G r:=by kernel_rfl
def zD7(n:Int)(bp:Int):DT (Int×Unit) :=
 ret (w64 (w64 (w64 (n.tdiv (10000:Int))*bp)+w64 ((w64 (n.tmod (10000:Int)*bp)).tdiv (10000:Int))),())
theorem zJD(n:Int)(bp:Int)(r:(Int×Unit)):(tree hd4 noL noL 473 [.int .i64,.int .i64] [.int .i64] (n,bp,())).G r=(zD7 n bp).G r:=by kernel_rfl
def qPY(a:Int)(b:Int):DT (Int×Int×Unit) :=
 ret (w64 (w64 (w64 (a.fdiv ((2:Int) ^ (25:Nat))*b.fdiv ((2:Int) ^ (25:Nat)))+(w64 (w64 (a.fdiv ((2:Int) ^ (25:Nat))*w64 (↑(BitVec.ofInt (64:Nat) b &&& BitVec.ofInt (64:Nat) (33554431:Int)).toNat:Int))+w64 (w64 (↑(BitVec.ofInt (64:Nat) a &&& BitVec.ofInt (64:Nat) (33554431:Int)).toNat:Int)*b.fdiv ((2:Int) ^ (25:Nat))))).fdiv ((2:Int) ^ (25:Nat)))+(w64 (w64 (w64 (↑(BitVec.ofInt (64:Nat) a &&& BitVec.ofInt (64:Nat) (33554431:Int)).toNat:Int)*w64 (↑(BitVec.ofInt (64:Nat) b &&& BitVec.ofInt (64:Nat) (33554431:Int)).toNat:Int))+w64 (w64 (↑(BitVec.ofInt (64:Nat) (w64 (w64 (a.fdiv ((2:Int) ^ (25:Nat))*w64 (↑(BitVec.ofInt (64:Nat) b &&& BitVec.ofInt (64:Nat) (33554431:Int)).toNat:Int))+w64 (w64 (↑(BitVec.ofInt (64:Nat) a &&& BitVec.ofInt (64:Nat) (33554431:Int)).toNat:Int)*b.fdiv ((2:Int) ^ (25:Nat))))) &&& BitVec.ofInt (64:Nat) (33554431:Int)).toNat:Int)*(2:Int) ^ (25:Nat)))).fdiv ((2:Int) ^ (50:Nat))),w64 (↑(BitVec.ofInt (64:Nat) (w64 (w64 (w64 (↑(BitVec.ofInt (64:Nat) a &&& BitVec.ofInt (64:Nat) (33554431:Int)).toNat:Int)*w64 (↑(BitVec.ofInt (64:Nat) b &&& BitVec.ofInt (64:Nat) (33554431:Int)).toNat:Int))+w64 (w64 (↑(BitVec.ofInt (64:Nat) (w64 (w64 (a.fdiv ((2:Int) ^ (25:Nat))*w64 (↑(BitVec.ofInt (64:Nat) b &&& BitVec.ofInt (64:Nat) (33554431:Int)).toNat:Int))+w64 (w64 (↑(BitVec.ofInt (64:Nat) a &&& BitVec.ofInt (64:Nat) (33554431:Int)).toNat:Int)*b.fdiv ((2:Int) ^ (25:Nat))))) &&& BitVec.ofInt (64:Nat) (33554431:Int)).toNat:Int)*(2:Int) ^ (25:Nat)))) &&& BitVec.ofInt (64:Nat) (1125899906842623:Int)).toNat:Int),())
theorem zHa(a:Int)(b:Int)(r:(Int×Int×Unit)):(tree hd4 noL noL 535 [.int .i64,.int .i64] [.int .i64,.int .i64] (a,b,())).G r=(qPY a b).G r:=by kernel_rfl
end Go.Proofs.YtehpnjmgjmkjaaaGreatDoor
namespace Go.Proofs.YtehpnjmgjmkjaaaGreatDoor
open Go Go.W Go.Proofs
set_option maxRecDepth 100000
def qEj(a:Vec):Bool:=decide (a.mem≥0)&&decide (a.mem≤1125899906842624)&&(decide (a.cores≥0)&&decide (a.cores≤1125899906842624))
theorem zJE(a:Vec):(qV0 a).G (qEj a,()):=by
 unfold qV0 qEj
 refine aF ?_
 cases decide (a.mem≥0)<;>cases decide (a.mem≤1125899906842624)<;>cases decide (a.cores≥0)<;>rfl
def qMy(n bp:Int):Int:=w64 (w64 (w64 (n.tdiv 10000)*bp)+w64 ((w64 (n.tmod 10000*bp)).tdiv 10000))
theorem zJF(n bp:Int):(zD7 n bp).G (qMy n bp,()):=rfl
def qNm(a:Int):Int:=w64 ((BitVec.ofInt 64 a &&& BitVec.ofInt 64 33554431).toNat:Int)
def zJG(a b:Int):Int:=w64 (w64 (a.fdiv (2 ^ 25)*qNm b)+w64 (qNm a*b.fdiv (2 ^ 25)))
def zJH(a b:Int):Int:=w64 (w64 (qNm a*qNm b)+w64 (qNm (zJG a b)*2 ^ 25))
def nO(a b:Int):Int×Int :=
 (w64 (w64 (w64 (a.fdiv (2 ^ 25)*b.fdiv (2 ^ 25))+(zJG a b).fdiv (2 ^ 25))+(zJH a b).fdiv (2 ^ 50)),w64 ((BitVec.ofInt 64 (zJH a b) &&& BitVec.ofInt 64 1125899906842623).toNat:Int))
theorem zHb(a b:Int):(qPY a b).G ((nO a b).1,(nO a b).2,()):=by
 unfold qPY nO zJH zJG qNm
 exact qH0.2 rfl
def zD8:TB:=con [.rcd 27] [.bool] (fun _a=>true) (fun a=>(shut qEj a.1,())) rfl
theorem zJI:aM 472 zD8 :=
 row_of qVz (L:=noL) (J:=noL) (by kernel_rfl) rfl rfl fun a h=>Eq.mpr (zJC a.1 _) (by simp only[aN];exact zJE _)
def zD9:TB:=con [.int .i64,.int .i64] [.int .i64] (fun _a=>true) (fun a=>(shut qMy a.1 a.2.1,())) rfl
theorem zJJ:aM 473 zD9 :=
 row_of qVz (L:=noL) (J:=noL) (by kernel_rfl) rfl rfl fun a h=>Eq.mpr (zJD a.1 a.2.1 _) (by simp only[aN];exact zJF _ _)
def qXI:TB:=con [.int .i64,.int .i64] [.int .i64,.int .i64] (fun _a=>true) (fun a=>((shut nO a.1 a.2.1).1,(shut nO a.1 a.2.1).2,())) rfl
theorem zHc:aM 535 qXI :=
 row_of qVz (L:=noL) (J:=noL) (by kernel_rfl) rfl rfl fun a h=>Eq.mpr (zHa a.1 a.2.1 _) (by simp only[aN];exact zHb _ _)
end Go.Proofs.YtehpnjmgjmkjaaaGreatDoor
