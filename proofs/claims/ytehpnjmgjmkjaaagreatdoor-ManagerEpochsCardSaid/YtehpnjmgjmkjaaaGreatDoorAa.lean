/- Part of the proof. No conditions. -/
import Derived.Test.YtehpnjmgjmkjaaaGreatDoorRf
import Derived.Test.YtehpnjmgjmkjaaaGreatDoorVg
noncomputable section
namespace Go.Proofs.YtehpnjmgjmkjaaaGreatDoor
open Go Go.W Go.Proofs
set_option maxRecDepth 100000
def oW(l:List (Nat×TB))(K:Con aC.T):Con aC.T:=fun f=>match dH l f with | some S=>some S | none=>K f
theorem fT{l:List (Nat×TB)}{K:Con aC.T}(h:iL Tryz.prog (fun g=>dH l g))(hK:iL Tryz.prog K):iL Tryz.prog (oW l K):=by
 intro f S hS
 unfold oW at hS
 split at hS
 ·rename_i S1 h1;cases hS;exact h f _ h1
 ·exact hK f S hS
def fzR(S:TB):TB:=fun args h=>(kT aC args h).bind fun q=>S q.1 q.2
theorem oF{f:FuncId}{S:TB}(hS:aM f S):aM f (fzR S):=by
 intro args h Q hq
 simp only[fzR,Out.dP] at hq
 obtain⟨q,h1,h2⟩:=(Out.gH _ _).1 hq
 obtain⟨hnx,hfz⟩:=qA1 h1
 obtain⟨ht,hc⟩:=hS q.1 q.2 Q h2
 refine⟨ht,fun N F φ w cargs hfr hH hl=>?_⟩
 obtain⟨N',F',φ',hl',hH',hG⟩:=hfz N F φ w cargs hH hl
 refine(hc N' F' φ' w cargs (fun r hr=>qAu (hfr r hr) hnx hG.names) hH' hl').mono (fun e w' he=>?_)
 obtain⟨cv,he,v,h',N2,F2,φ2,hq',hv,hH2,hG2⟩:=he
 exact⟨cv,he,v,h',N2,F2,φ2,hq',hv,hH2,hG.trans hG2⟩
theorem qXJ{hd:Hd aC.T}(hHd:bJ Tryz.prog hd){L J:Nat→St aC.T→Option (List Ld)}{f:Nat}(ht:(match Tryz.prog.funcs[f]? with | some fn=>!fn.body.isNone | none=>false)=true){ka kr:List Kd}(hkr:kr.all eH=true)(d:Ka kr){u:Ka ka→Option (Ka kr)}
  (hu:u=hide fun a=>(tree hd L J f ka kr a).val):xX Tryz.prog f (qB4 aC ka kr (fun a=>(u a).isSome) (fun a=>(u a).getD d)):=by
 obtain⟨fn,hfn⟩:∃fn,Tryz.prog.funcs[f]? = some fn:=by
  split at ht
  ·rename_i fn h;exact⟨fn,h⟩
  ·cases ht
 refine qGq (fuel:=1000) (L:=L) (J:=J) mixed hHd hfn (there f ht) hkr fun a ha=>?_
 have: (tree hd L J f ka kr a).G ((u a).getD d):=by
  rw[hu,qA2] at ha ⊢
  exact DT.qRB ha
 unfold tree at this
 rw[hfn] at this
 exact this
theorem dW{hd:Hd aC.T}(hHd:bJ Tryz.prog hd){L J:Nat→St aC.T→Option (List Ld)}{f:Nat}(ht:(match Tryz.prog.funcs[f]? with | some fn=>!fn.body.isNone | none=>false)=true){ka kr:List Kd}(hk:ka.all eH=true)(hkr:kr.all eH=true)(d:Ka kr){u:Ka ka→Option (Ka kr)}
  (hu:u=hide fun a=>(tree hd L J f ka kr a).val):aM f (fzR (con ka kr (fun a=>(u a).isSome) (fun a=>(u a).getD d) hk)) :=
 oF (Spec.nZ (qXJ hHd ht hkr d hu) (qEZ ka kr _ _ hk) fun _=>Nat.zero_le _)
theorem bZ{hd:Hd aC.T}(hHd:bJ Tryz.prog hd){L J:Nat→St aC.T→Option (List Ld)}{f:Nat}(ht:(match Tryz.prog.funcs[f]? with | some fn=>!fn.body.isNone | none=>false)=true){ka kr:List Kd}(hk:ka.all eH=true)(hkr:kr.all eH=true)(d:Ka kr){u:Ka ka→Option (Ka kr)}
  (hu:u=hide fun a=>(tree hd L J f ka kr a).val) (hfl:∀a:Ka ka,qHy (encR aC kr ((u a).getD d))=true):aM f (fM aC ka kr (fun a=>(u a).isSome) (fun a=>(u a).getD d)) :=
 qXw (qXJ hHd ht hkr d hu) hk hfl
theorem cZ{α:Type}{t u:DT α}{w:Option α}{d r:α}(hw:w=t.val)(hv:t.G r=u.G r)(h:u.G r):w.isSome=true∧w.getD d=r:=by
 have e:=DT.qUN (Eq.mpr hv h)
 rw[hw,e]
 exact⟨rfl,rfl⟩
theorem qV1{f:Nat}(ht:(match Tryz.prog.funcs[f]? with | some fn=>!fn.body.isNone | none=>false)=true){ka kr:List Kd}(hk:ka.all eH=true)(hkr:kr.all eH=true)(m:Ka ka→Ka kr):aM f (fzR (con ka kr (fun _=>false) m hk)):=oF (row_of eO (L:=noL) (J:=noL) ht hk hkr fun a h=>by cases h)
def AU0:Con aC.T:=fzC aC fun f=>dH [(48,qCM),(109,qCN),(149,uR),(326,qGz),(401,qQ),(157,zB),(392,qCP),(47,zC),(17,zD),(146,zF),(152,qR),(134,qG2),(141,qCR),(397,zH),(150,qU),(279,zI),(396,uT),(135,qG3),(144,oQ),(153,zJ),(50,oU),(340,qG4),(147,oV),(292,qG5),(158,vQ),(111,qBD),(227,qKa),(393,qFl),(140,vR),(224,qBE),(142,qCT),(139,qFn),(386,qCU),(327,qI1),(136,qI2),(151,qI3),(330,qI4),(148,qI5),(137,qFo),(110,qI6),(68,qI7),(155,qFp),(143,qCW),(64,qFq),(57,wV),(226,qFr),(51,qPX),(59,qEi),(390,zD6),(472,zD8),(473,zD9),(535,qXI)] f
theorem qV2:iL Tryz.prog AU0:=qP0 (aA qIw (aA qIx (aA qCO (aA qP9 (aA qA4 (aA qFd (aA qIy (aA qFe (aA qFf (aA qFg (aA qA5 (aA qPD (aA qIz (aA qFh (aA qA8 (aA qFi (aA qCS (aA qPE (aA wQ (aA qFj (aA wR (aA qPF (aA wS (aA qPG (aA qBC (aA qFk (aA qPH (aA qI0 (aA qA9 (aA qFm (aA qG9 (aA qKg (aA qGA (aA qPP (aA qPQ (aA qPR (aA qPS (aA qPT (aA qKi (aA qPU (aA qPV (aA qKj (aA qGC (aA qKk (aA qBG (aA qKl (aA qXH (aA qKo (aA zI9 (aA zJI (aA zJJ (aA zHc (fH)))))))))))))))))))))))))))))))))))))))))))))))))))))
def vV:Hd aC.T:=hdT aC Tryz.prog AU0 (fun _=>false) 1000 5
theorem iV:bJ Tryz.prog vV:=bW mixed hno qV2 _ _ _
def qKp:Ka [.rcd 27,.int .i64]→Option (Ka [.rcd 27,.int .i64]):=hide fun a=>(tree vV noL noL 432 [.rcd 27,.int .i64] [.rcd 27,.int .i64] a).val
def zK(v:Vec)(bp:Int):Bool:=(qKp (v,bp,())).isSome
def qBH(v:Vec)(bp:Int):Vec×Int×Unit:=(qKp (v,bp,())).getD ((gG,0,()):Vec×Int×Unit)
def qSs:TB:=fM aC [.rcd 27,.int .i64] [.rcd 27,.int .i64] (fun a=>zK a.1 a.2.1) (fun a=>qBH a.1 a.2.1)
theorem zDA:aM 432 qSs:=bZ iV (L:=noL) (J:=noL) (ka:=[.rcd 27,.int .i64]) (kr:=[.rcd 27,.int .i64]) (by kernel_rfl) rfl rfl ((gG,0,()):Vec×Int×Unit) (u:=qKp) rfl fun _=>rfl
def qNn(id:Nat)(st:St aC.T):Option (List Ld):=match id with
 | 3=>some (bK st 2 [.rcd 467])
 | 5=>some (bK st 3 [.rcd 467])
 | _=>none
def qKq:Ka [.rcd 467,.rcd 467]→Option (Ka [.int .i64]):=hide fun a=>(tree vV noL qNn 515 [.rcd 467,.rcd 467] [.int .i64] a).val
def zL(x:Fr)(y:Fr):Bool:=(qKq (x,y,())).isSome
def qBI(x:Fr)(y:Fr):Int×Unit:=(qKq (x,y,())).getD ((0,()):Int×Unit)
def qSt:TB:=fM aC [.rcd 467,.rcd 467] [.int .i64] (fun a=>zL a.1 a.2.1) (fun a=>qBI a.1 a.2.1)
theorem zDB:aM 515 qSt:=bZ iV (L:=noL) (J:=qNn) (ka:=[.rcd 467,.rcd 467]) (kr:=[.int .i64]) (by kernel_rfl) rfl rfl ((0,()):Int×Unit) (u:=qKq) rfl fun _=>rfl
def qKr(id:Nat)(_st:St aC.T):Option (List Ld):=match id with
 | 3=>some ([.slot 6 (.int .i64)])
 | _=>none
def qGD:Ka [.str,.str]→Option (Ka [.bool]):=hide fun a=>(tree vV qKr noL 398 [.str,.str] [.bool] a).val
def vW(leaf:B)(path:B):Bool:=(qGD (leaf,path,())).isSome
def zM(leaf:B)(path:B):Bool×Unit:=(qGD (leaf,path,())).getD ((false,()):Bool×Unit)
def qNo:TB:=fM aC [.str,.str] [.bool] (fun a=>vW a.1 a.2.1) (fun a=>zM a.1 a.2.1)
theorem zAg:aM 398 qNo:=bZ iV (L:=qKr) (J:=noL) (ka:=[.str,.str]) (kr:=[.bool]) (by kernel_rfl) rfl rfl ((false,()):Bool×Unit) (u:=qGD) rfl fun _=>rfl
def qKs(id:Nat)(_st:St aC.T):Option (List Ld):=match id with
 | 8=>some ([.slot 11 (.int .i64)])
 | _=>none
def qKt(id:Nat)(st:St aC.T):Option (List Ld):=match id with
 | 7=>some (bK st 6 [.rcd 47])
 | 10=>some ([.slot 11 (.int .i64)])
 | 11=>some ([aY st 12 50 false])
 | 12=>some ([aY st 12 50 false])
 | _=>none
def qGE:Ka [.rcd 39,.rcd 57,.rcd 47,.rcd 95]→Option (Ka [.rcd 39,.rcd 50]):=hide fun a=>(tree vV qKs qKt 332 [.rcd 39,.rcd 57,.rcd 47,.rcd 95] [.rcd 39,.rcd 50] a).val
def qV(s:Se)(n:Nd)(a:Ap)(x:Ak):Bool:=(qGE (s,n,a,x,())).isSome
def mP(s:Se)(n:Nd)(a:Ap)(x:Ak):Se×Ct×Unit:=(qGE (s,n,a,x,())).getD ((dSe,dCt,()):Se×Ct×Unit)
def qNp:TB:=fzR (con [.rcd 39,.rcd 57,.rcd 47,.rcd 95] [.rcd 39,.rcd 50] (fun a=>qV a.1 a.2.1 a.2.2.1 a.2.2.2.1) (fun a=>mP a.1 a.2.1 a.2.2.1 a.2.2.2.1) rfl)
theorem zAh:aM 332 qNp:=dW iV (L:=qKs) (J:=qKt) (ka:=[.rcd 39,.rcd 57,.rcd 47,.rcd 95]) (kr:=[.rcd 39,.rcd 50]) (by kernel_rfl) rfl rfl ((dSe,dCt,()):Se×Ct×Unit) (u:=qGE) rfl
def qNq(id:Nat)(st:St aC.T):Option (List Ld):=match id with
 | 3=>some ([.slot 8 (.int .i64)]++qR7 st 7 50)
 | _=>none
def qNr(id:Nat)(st:St aC.T):Option (List Ld):=match id with
 | 2=>some ([aY st 7 50 false])
 | _=>none
def qKu:Ka [.rcd 39,.int .i64,.int .i64]→Option (Ka [.rcd 39]):=hide fun a=>(tree vV qNq qNr 230 [.rcd 39,.int .i64,.int .i64] [.rcd 39] a).val
def zN(s:Se)(id:Int)(t:Int):Bool:=(qKu (s,id,t,())).isSome
def qBJ(s:Se)(id:Int)(t:Int):Se×Unit:=(qKu (s,id,t,())).getD ((dSe,()):Se×Unit)
def qSu:TB:=fzR (con [.rcd 39,.int .i64,.int .i64] [.rcd 39] (fun a=>zN a.1 a.2.1 a.2.2.1) (fun a=>qBJ a.1 a.2.1 a.2.2.1) rfl)
theorem zDC:aM 230 qSu:=dW iV (L:=qNq) (J:=qNr) (ka:=[.rcd 39,.int .i64,.int .i64]) (kr:=[.rcd 39]) (by kernel_rfl) rfl rfl ((dSe,()):Se×Unit) (u:=qKu) rfl
def qH8(id:Nat)(_st:St aC.T):Option (List Ld):=match id with
 | 3=>some ([.slot 5 (.int .i64)]++[.slot 6 (.int .i64)])
 | _=>none
def qH9(id:Nat)(_st:St aC.T):Option (List Ld):=match id with
 | 4=>some ([.slot 5 (.int .i64)])
 | _=>none
def qEk:Ka [.rcd 39,.rcd 50]→Option (Ka [.int .i64]):=hide fun a=>(tree vV qH8 qH9 285 [.rcd 39,.rcd 50] [.int .i64] a).val
def wW(s:Se)(c:Ct):Bool:=(qEk (s,c,())).isSome
def qAC(s:Se)(c:Ct):Int×Unit:=(qEk (s,c,())).getD ((0,()):Int×Unit)
def qKv:TB:=fM aC [.rcd 39,.rcd 50] [.int .i64] (fun a=>wW a.1 a.2.1) (fun a=>qAC a.1 a.2.1)
theorem qV3:aM 285 qKv:=bZ iV (L:=qH8) (J:=qH9) (ka:=[.rcd 39,.rcd 50]) (kr:=[.int .i64]) (by kernel_rfl) rfl rfl ((0,()):Int×Unit) (u:=qEk) rfl fun _=>rfl
def qKw(id:Nat)(st:St aC.T):Option (List Ld):=match id with
 | 2=>some ([aY st 1 95 false]++[.slot 8 (.int .i64)])
 | _=>none
def qKx(id:Nat)(st:St aC.T):Option (List Ld):=match id with
 | 3=>some ([aY st 1 95 false])
 | _=>none
def qGF:Ka [.rcd 39,.dat 95,.dat 95]→Option (Ka [.dat 95,.int .i64]):=hide fun a=>(tree vV qKw qKx 145 [.rcd 39,.dat 95,.dat 95] [.dat 95,.int .i64] a).val
def qAD(s:Se)(l:List Ak)(more:List Ak):Bool:=(qGF (s,l,more,())).isSome
def uU(s:Se)(l:List Ak)(more:List Ak):(List Ak)×Int×Unit:=(qGF (s,l,more,())).getD (([],0,()):(List Ak)×Int×Unit)
def qNs:TB:=fzR (con [.rcd 39,.dat 95,.dat 95] [.dat 95,.int .i64] (fun a=>qAD a.1 a.2.1 a.2.2.1) (fun a=>uU a.1 a.2.1 a.2.2.1) rfl)
theorem zAi:aM 145 qNs:=dW iV (L:=qKw) (J:=qKx) (ka:=[.rcd 39,.dat 95,.dat 95]) (kr:=[.dat 95,.int .i64]) (by kernel_rfl) rfl rfl (([],0,()):(List Ak)×Int×Unit) (u:=qGF) rfl
def qV4(ok:Ka [.int .i64]→Bool)(m:Ka [.int .i64]→Ka [.str]):Con aC.T:=oW [(66,fzR (con [.int .i64] [.str] ok m rfl))] AU0
def wY(ok:Ka [.int .i64]→Bool)(m:Ka [.int .i64]→Ka [.str]):Hd aC.T:=hdT aC Tryz.prog (qV4 ok m) (fun _=>false) 1000 5
def gQ:Nat→Ka [.int .i64]→Option (Ka [.str])
 | 0=>fun _=>none
 | n+1=>hide fun a=>(tree (wY (fun a=>(gQ n a).isSome) fun a=>(gQ n a).getD (([],()):B×Unit)) noL noL 66 [.int .i64] [.str] a).val
theorem qHA:∀n,aM 66 (fzR (con [.int .i64] [.str] (fun a=>(gQ n a).isSome) (fun a=>(gQ n a).getD (([],()):B×Unit)) rfl))
 | 0=>qV1 (by kernel_rfl) rfl rfl _
 | n+1=>dW (hd:=wY (fun a=>(gQ n a).isSome) fun a=>(gQ n a).getD (([],()):B×Unit)) (bW mixed hno (fT (aA (qHA n) fH) qV2) _ _ _) (L:=noL) (J:=noL) (ka:=[.int .i64]) (kr:=[.str]) (by kernel_rfl) rfl rfl (([],()):B×Unit) (u:=gQ (n+1)) rfl
theorem qV5(n:Nat)(a:Ka [.int .i64]):gQ (n+1) a=(tree (wY (fun a=>(gQ n a).isSome) fun a=>(gQ n a).getD (([],()):B×Unit)) noL noL 66 [.int .i64] [.str] a).val:=congrFun (qA2 _) a
def uE(fu:Nat)(n:Int):Bool:=(gQ fu (n,())).isSome
def wZ(fu:Nat)(n:Int):B×Unit:=(gQ fu (n,())).getD (([],()):B×Unit)
def sI(n:Int):Bool:=uE 20 n
def jA(n:Int):B×Unit:=wZ 20 n
def qKy:TB:=fzR (con [.int .i64] [.str] (fun a=>sI a.1) (fun a=>jA a.1) rfl)
theorem qV6:aM 66 qKy:=qHA 20
def qXK(id:Nat)(st:St aC.T):Option (List Ld):=match id with
 | 4=>some ([aY st 5 9 false]++[.slot 6 (.int .i64)]++[.slot 7 (.int .i64)])
 | _=>none
def qXL(id:Nat)(st:St aC.T):Option (List Ld):=match id with
 | 5=>some ([aY st 5 9 false]++[.slot 6 (.int .i64)])
 | 8=>some ([aY st 5 9 false])
 | 9=>some ([aY st 5 9 false]++[.slot 6 (.int .i64)])
 | 11=>some ([aY st 5 9 false])
 | _=>none
def qV7:Ka [.str,.int .u8]→Option (Ka [.dat 9]):=hide fun a=>(tree vV qXK qXL 221 [.str,.int .u8] [.dat 9] a).val
def qFs(s:B)(c:Int):Bool:=(qV7 (s,c,())).isSome
def aZ(s:B)(c:Int):(List B)×Unit:=(qV7 (s,c,())).getD (([],()):(List B)×Unit)
def zDD:TB:=fzR (con [.str,.int .u8] [.dat 9] (fun a=>qFs a.1 a.2.1) (fun a=>aZ a.1 a.2.1) rfl)
theorem zJK:aM 221 zDD:=dW iV (L:=qXK) (J:=qXL) (ka:=[.str,.int .u8]) (kr:=[.dat 9]) (by kernel_rfl) rfl rfl (([],()):(List B)×Unit) (u:=qV7) rfl
def qKz(id:Nat)(_st:St aC.T):Option (List Ld):=match id with
 | 5=>some ([.slot 4 (.int .i64)]++[.slot 5 (.int .i64)])
 | _=>none
def qK0(id:Nat)(_st:St aC.T):Option (List Ld):=match id with
 | 6=>some ([.slot 4 (.int .i64)])
 | _=>none
def qGG:Ka [.str]→Option (Ka [.int .i64,.bool]):=hide fun a=>(tree vV qKz qK0 277 [.str] [.int .i64,.bool] a).val
def qW(s:B):Bool:=(qGG (s,())).isSome
def jL(s:B):Int×Bool×Unit:=(qGG (s,())).getD ((0,false,()):Int×Bool×Unit)
def qNt:TB:=fM aC [.str] [.int .i64,.bool] (fun a=>qW a.1) (fun a=>jL a.1)
theorem zAj:aM 277 qNt:=bZ iV (L:=qKz) (J:=qK0) (ka:=[.str]) (kr:=[.int .i64,.bool]) (by kernel_rfl) rfl rfl ((0,false,()):Int×Bool×Unit) (u:=qGG) rfl fun _=>rfl
def qSv(id:Nat)(_st:St aC.T):Option (List Ld):=match id with
 | 4=>some ([.slot 3 (.int .i64)])
 | _=>none
def qPZ:Ka [.str]→Option (Ka [.bool]):=hide fun a=>(tree vV qSv noL 173 [.str] [.bool] a).val
def zO(s:B):Bool:=(qPZ (s,())).isSome
def qCX(s:B):Bool×Unit:=(qPZ (s,())).getD ((false,()):Bool×Unit)
def qXM:TB:=fM aC [.str] [.bool] (fun a=>zO a.1) (fun a=>qCX a.1)
theorem zHd:aM 173 qXM:=bZ iV (L:=qSv) (J:=noL) (ka:=[.str]) (kr:=[.bool]) (by kernel_rfl) rfl rfl ((false,()):Bool×Unit) (u:=qPZ) rfl fun _=>rfl
def qSw(id:Nat)(_st:St aC.T):Option (List Ld):=match id with
 | 2=>some ([.slot 3 (.int .i64)])
 | 6=>some ([.slot 5 (.int .i64)])
 | 10=>some ([.slot 6 (.int .i64)]++[.slot 7 (.int .i64)])
 | _=>none
def qSx(id:Nat)(_st:St aC.T):Option (List Ld):=match id with
 | 14=>some ([.slot 6 (.int .i64)])
 | _=>none
def qQa:Ka [.rcd 32]→Option (Ka [.bool]):=hide fun a=>(tree vV qSw qSx 107 [.rcd 32] [.bool] a).val
def qFt(c:Cf):Bool:=(qQa (c,())).isSome
def qI8(c:Cf):Bool×Unit:=(qQa (c,())).getD ((false,()):Bool×Unit)
def qXN:TB:=fM aC [.rcd 32] [.bool] (fun a=>qFt a.1) (fun a=>qI8 a.1)
theorem zHe:aM 107 qXN:=bZ iV (L:=qSw) (J:=qSx) (ka:=[.rcd 32]) (kr:=[.bool]) (by kernel_rfl) rfl rfl ((false,()):Bool×Unit) (u:=qQa) rfl fun _=>rfl
def qSy(id:Nat)(st:St aC.T):Option (List Ld):=match id with
 | 3=>some ([.slot 6 (.int .i64)]++qR7 st 5 95)
 | _=>none
def qSz(id:Nat)(st:St aC.T):Option (List Ld):=match id with
 | 2=>some ([aY st 5 95 false])
 | _=>none
def qQb:Ka [.dat 95,.int .i64]→Option (Ka [.dat 95]):=hide fun a=>(tree vV qSy qSz 395 [.dat 95,.int .i64] [.dat 95] a).val
def qBK(l:List Ak)(prio:Int):Bool:=(qQb (l,prio,())).isSome
def qAE(l:List Ak)(prio:Int):(List Ak)×Unit:=(qQb (l,prio,())).getD (([],()):(List Ak)×Unit)
def qXO:TB:=fzR (con [.dat 95,.int .i64] [.dat 95] (fun a=>qBK a.1 a.2.1) (fun a=>qAE a.1 a.2.1) rfl)
theorem zHf:aM 395 qXO:=dW iV (L:=qSy) (J:=qSz) (ka:=[.dat 95,.int .i64]) (kr:=[.dat 95]) (by kernel_rfl) rfl rfl (([],()):(List Ak)×Unit) (u:=qQb) rfl
def qK1:Ka [.rcd 47]→Option (Ka [.bool]):=hide fun a=>(tree vV noL noL 49 [.rcd 47] [.bool] a).val
def mQ(a:Ap):Bool:=(qK1 (a,())).isSome
def pM(a:Ap):Bool×Unit:=(qK1 (a,())).getD ((false,()):Bool×Unit)
def qS0:TB:=fM aC [.rcd 47] [.bool] (fun a=>mQ a.1) (fun a=>pM a.1)
theorem zDE:aM 49 qS0:=bZ iV (L:=noL) (J:=noL) (ka:=[.rcd 47]) (kr:=[.bool]) (by kernel_rfl) rfl rfl ((false,()):Bool×Unit) (u:=qK1) rfl fun _=>rfl
def qK2:Ka [.int .i64]→Option (Ka [.int .i64]):=hide fun a=>(tree vV noL noL 434 [.int .i64] [.int .i64] a).val
def mR(n:Int):Bool:=(qK2 (n,())).isSome
def aL(n:Int):Int×Unit:=(qK2 (n,())).getD ((0,()):Int×Unit)
def qS1:TB:=fM aC [.int .i64] [.int .i64] (fun a=>mR a.1) (fun a=>aL a.1)
theorem zDF:aM 434 qS1:=bZ iV (L:=noL) (J:=noL) (ka:=[.int .i64]) (kr:=[.int .i64]) (by kernel_rfl) rfl rfl ((0,()):Int×Unit) (u:=qK2) rfl fun _=>rfl
def AU1:Con aC.T:=oW [(432,qSs),(515,qSt),(398,qNo),(332,qNp),(230,qSu),(285,qKv),(145,qNs),(66,qKy),(221,zDD),(277,qNt),(173,qXM),(107,qXN),(395,qXO),(49,qS0),(434,qS1)] AU0
theorem zDG:iL Tryz.prog AU1:=fT (aA zDA (aA zDB (aA zAg (aA zAh (aA zDC (aA qV3 (aA zAi (aA qV6 (aA zJK (aA zAj (aA zHd (aA zHe (aA zHf (aA zDE (aA zDF (fH)))))))))))))))) qV2
def sJ:Hd aC.T:=hdT aC Tryz.prog AU1 (fun _=>false) 1000 5
theorem gX:bJ Tryz.prog sJ:=bW mixed hno zDG _ _ _
def qNu(id:Nat)(st:St aC.T):Option (List Ld):=match id with
 | 3=>some ([aY st 5 47 false]++[.slot 6 (.int .i64)])
 | 8=>some ([.slot 8 (.int .i64)])
 | 15=>some ([aY st 10 3 false]++[.slot 11 (.int .i64)])
 | _=>none
def qNv(id:Nat)(st:St aC.T):Option (List Ld):=match id with
 | 4=>some ([aY st 5 47 false])
 | 10=>some ([.slot 8 (.int .i64)])
 | 11=>some ([aY st 9 47 false])
 | 12=>some ([aY st 9 47 false])
 | 13=>some ([aY st 5 47 false])
 | _=>none
def qK3:Ka [.rcd 39,.str]→Option (Ka [.dat 3]):=hide fun a=>(tree sJ qNu qNv 334 [.rcd 39,.str] [.dat 3] a).val
def qCY(s:Se)(queue:B):Bool:=(qK3 (s,queue,())).isSome
def eB(s:Se)(queue:B):(List Int)×Unit:=(qK3 (s,queue,())).getD (([],()):(List Int)×Unit)
def qS2:TB:=fzR (con [.rcd 39,.str] [.dat 3] (fun a=>qCY a.1 a.2.1) (fun a=>eB a.1 a.2.1) rfl)
theorem zDH:aM 334 qS2:=dW gX (L:=qNu) (J:=qNv) (ka:=[.rcd 39,.str]) (kr:=[.dat 3]) (by kernel_rfl) rfl rfl (([],()):(List Int)×Unit) (u:=qK3) rfl
def qK4(id:Nat)(st:St aC.T):Option (List Ld):=match id with
 | 5=>some ([aY st 11 3 false]++[.slot 10 (.int .i64)]++[.slot 12 (.int .i64)])
 | 11=>some ([.slot 10 (.int .i64)]++[.slot 14 (.int .i64)]++qR7 st 11 3)
 | _=>none
def qK5(id:Nat)(st:St aC.T):Option (List Ld):=match id with
 | 9=>some ([aY st 11 3 false])
 | 10=>some ([aY st 11 3 false]++[.slot 10 (.int .i64)])
 | _=>none
def qGH:Ka [.int .i64,.dat 3,.dat 3,.dat 3]→Option (Ka [.dat 3]):=hide fun a=>(tree sJ qK4 qK5 399 [.int .i64,.dat 3,.dat 3,.dat 3] [.dat 3] a).val
def qAF(total:Int)(least:List Int)(want:List Int)(most:List Int):Bool:=(qGH (total,least,want,most,())).isSome
def mU(total:Int)(least:List Int)(want:List Int)(most:List Int):(List Int)×Unit:=(qGH (total,least,want,most,())).getD (([],()):(List Int)×Unit)
def qNw:TB:=fzR (con [.int .i64,.dat 3,.dat 3,.dat 3] [.dat 3] (fun a=>qAF a.1 a.2.1 a.2.2.1 a.2.2.2.1) (fun a=>mU a.1 a.2.1 a.2.2.1 a.2.2.2.1) rfl)
theorem zAk:aM 399 qNw:=dW gX (L:=qK4) (J:=qK5) (ka:=[.int .i64,.dat 3,.dat 3,.dat 3]) (kr:=[.dat 3]) (by kernel_rfl) rfl rfl (([],()):(List Int)×Unit) (u:=qGH) rfl
def qQc:Ka [.rcd 27,.rcd 27]→Option (Ka [.rcd 467]):=hide fun a=>(tree sJ noL noL 516 [.rcd 27,.rcd 27] [.rcd 467] a).val
def qBL(a:Vec)(p:Vec):Bool:=(qQc (a,p,())).isSome
def qAG(a:Vec)(p:Vec):Fr×Unit:=(qQc (a,p,())).getD ((dFr,()):Fr×Unit)
def qXP:TB:=fM aC [.rcd 27,.rcd 27] [.rcd 467] (fun a=>qBL a.1 a.2.1) (fun a=>qAG a.1 a.2.1)
theorem zHg:aM 516 qXP:=bZ gX (L:=noL) (J:=noL) (ka:=[.rcd 27,.rcd 27]) (kr:=[.rcd 467]) (by kernel_rfl) rfl rfl ((dFr,()):Fr×Unit) (u:=qQc) rfl fun _=>rfl
def qFu(id:Nat)(st:St aC.T):Option (List Ld):=match id with
 | 3=>some ([.slot 8 (.int .i64)]++bK st 7 [.rcd 27])
 | _=>none
def qFv(id:Nat)(st:St aC.T):Option (List Ld):=match id with
 | 4=>some (bK st 7 [.rcd 27])
 | _=>none
def qBM:Ka [.rcd 39,.str,.int .i64]→Option (Ka [.rcd 27]):=hide fun a=>(tree sJ qFu qFv 339 [.rcd 39,.str,.int .i64] [.rcd 27] a).val
def pO(s:Se)(path:B)(label:Int):Bool:=(qBM (s,path,label,())).isSome
def lU(s:Se)(path:B)(label:Int):Vec×Unit:=(qBM (s,path,label,())).getD ((gG,()):Vec×Unit)
def qHB:TB:=fM aC [.rcd 39,.str,.int .i64] [.rcd 27] (fun a=>pO a.1 a.2.1 a.2.2.1) (fun a=>lU a.1 a.2.1 a.2.2.1)
theorem qS3:aM 339 qHB:=bZ gX (L:=qFu) (J:=qFv) (ka:=[.rcd 39,.str,.int .i64]) (kr:=[.rcd 27]) (by kernel_rfl) rfl rfl ((gG,()):Vec×Unit) (u:=qBM) rfl fun _=>rfl
def qNx(id:Nat)(st:St aC.T):Option (List Ld):=match id with
 | 3=>some ([.slot 12 (.int .i64)]++bK st 11 [.rcd 27])
 | _=>none
def qNy(id:Nat)(st:St aC.T):Option (List Ld):=match id with
 | 4=>some (bK st 11 [.rcd 27])
 | _=>none
def qK6:Ka [.rcd 39,.str,.int .i64,.bool,.int .i64]→Option (Ka [.rcd 27]):=hide fun a=>(tree sJ qNx qNy 336 [.rcd 39,.str,.int .i64,.bool,.int .i64] [.rcd 27] a).val
def gK(s:Se)(path:B)(label:Int)(all:Bool)(user:Int):Bool:=(qK6 (s,path,label,all,user,())).isSome
def dD(s:Se)(path:B)(label:Int)(all:Bool)(user:Int):Vec×Unit:=(qK6 (s,path,label,all,user,())).getD ((gG,()):Vec×Unit)
def qS4:TB:=fM aC [.rcd 39,.str,.int .i64,.bool,.int .i64] [.rcd 27] (fun a=>gK a.1 a.2.1 a.2.2.1 a.2.2.2.1 a.2.2.2.2.1) (fun a=>dD a.1 a.2.1 a.2.2.1 a.2.2.2.1 a.2.2.2.2.1)
theorem zDI:aM 336 qS4:=bZ gX (L:=qNx) (J:=qNy) (ka:=[.rcd 39,.str,.int .i64,.bool,.int .i64]) (kr:=[.rcd 27]) (by kernel_rfl) rfl rfl ((gG,()):Vec×Unit) (u:=qK6) rfl fun _=>rfl
def qNz(id:Nat)(_st:St aC.T):Option (List Ld):=match id with
 | 4=>some ([.slot 11 (.int .i64)])
 | _=>none
def qK7:Ka [.dat 59,.rcd 27,.rcd 59,.int .i64,.int .i64]→Option (Ka [.bool]):=hide fun a=>(tree sJ qNz noL 232 [.dat 59,.rcd 27,.rcd 59,.int .i64,.int .i64] [.bool] a).val
def zP(l:List Pn)(total:Vec)(p:Pn)(t:Int)(long:Int):Bool:=(qK7 (l,total,p,t,long,())).isSome
def qBN(l:List Pn)(total:Vec)(p:Pn)(t:Int)(long:Int):Bool×Unit:=(qK7 (l,total,p,t,long,())).getD ((false,()):Bool×Unit)
def qS5:TB:=fM aC [.dat 59,.rcd 27,.rcd 59,.int .i64,.int .i64] [.bool] (fun a=>zP a.1 a.2.1 a.2.2.1 a.2.2.2.1 a.2.2.2.2.1) (fun a=>qBN a.1 a.2.1 a.2.2.1 a.2.2.2.1 a.2.2.2.2.1)
theorem zDJ:aM 232 qS5:=bZ gX (L:=qNz) (J:=noL) (ka:=[.dat 59,.rcd 27,.rcd 59,.int .i64,.int .i64]) (kr:=[.bool]) (by kernel_rfl) rfl rfl ((false,()):Bool×Unit) (u:=qK7) rfl fun _=>rfl
def qHC(id:Nat)(_st:St aC.T):Option (List Ld):=match id with
 | 3=>some ([.slot 9 (.int .i64)]++[.slot 10 (.int .i64)])
 | _=>none
def qHD(id:Nat)(_st:St aC.T):Option (List Ld):=match id with
 | 4=>some ([.slot 9 (.int .i64)])
 | _=>none
def qEl:Ka [.rcd 39,.str,.int .i64,.dat 3]→Option (Ka [.int .i64]):=hide fun a=>(tree sJ qHC qHD 289 [.rcd 39,.str,.int .i64,.dat 3] [.int .i64] a).val
def oZ(s:Se)(path:B)(label:Int)(l:List Int):Bool:=(qEl (s,path,label,l,())).isSome
def lV(s:Se)(path:B)(label:Int)(l:List Int):Int×Unit:=(qEl (s,path,label,l,())).getD ((0,()):Int×Unit)
def qK8:TB:=fM aC [.rcd 39,.str,.int .i64,.dat 3] [.int .i64] (fun a=>oZ a.1 a.2.1 a.2.2.1 a.2.2.2.1) (fun a=>lV a.1 a.2.1 a.2.2.1 a.2.2.2.1)
theorem qV8:aM 289 qK8:=bZ gX (L:=qHC) (J:=qHD) (ka:=[.rcd 39,.str,.int .i64,.dat 3]) (kr:=[.int .i64]) (by kernel_rfl) rfl rfl ((0,()):Int×Unit) (u:=qEl) rfl fun _=>rfl
def qHE(id:Nat)(st:St aC.T):Option (List Ld):=match id with
 | 3=>some ([.slot 11 (.bool)]++[.slot 12 (.int .i64)]++bK st 10 [.rcd 50])
 | _=>none
def qHF(id:Nat)(st:St aC.T):Option (List Ld):=match id with
 | 4=>some ([.slot 11 (.bool)]++bK st 10 [.rcd 50])
 | _=>none
def qEm:Ka [.rcd 39,.str,.int .i64,.dat 3]→Option (Ka [.rcd 50,.bool]):=hide fun a=>(tree sJ qHE qHF 290 [.rcd 39,.str,.int .i64,.dat 3] [.rcd 50,.bool] a).val
def sK(s:Se)(path:B)(label:Int)(l:List Int):Bool:=(qEm (s,path,label,l,())).isSome
def oG(s:Se)(path:B)(label:Int)(l:List Int):Ct×Bool×Unit:=(qEm (s,path,label,l,())).getD ((dCt,false,()):Ct×Bool×Unit)
def qK9:TB:=fM aC [.rcd 39,.str,.int .i64,.dat 3] [.rcd 50,.bool] (fun a=>sK a.1 a.2.1 a.2.2.1 a.2.2.2.1) (fun a=>oG a.1 a.2.1 a.2.2.1 a.2.2.2.1)
theorem qV9:aM 290 qK9:=bZ gX (L:=qHE) (J:=qHF) (ka:=[.rcd 39,.str,.int .i64,.dat 3]) (kr:=[.rcd 50,.bool]) (by kernel_rfl) rfl rfl ((dCt,false,()):Ct×Bool×Unit) (u:=qEm) rfl fun _=>rfl
def qKA:Ka [.rcd 39,.int .i64,.int .i64]→Option (Ka [.rcd 39,.rcd 53]):=hide fun a=>(tree sJ noL noL 61 [.rcd 39,.int .i64,.int .i64] [.rcd 39,.rcd 53] a).val
def zQ(s:Se)(id:Int)(state:Int):Bool:=(qKA (s,id,state,())).isSome
def vX(s:Se)(id:Int)(state:Int):Se×Ou×Unit:=(qKA (s,id,state,())).getD ((dSe,dOu,()):Se×Ou×Unit)
def qS6:TB:=fzR (con [.rcd 39,.int .i64,.int .i64] [.rcd 39,.rcd 53] (fun a=>zQ a.1 a.2.1 a.2.2.1) (fun a=>vX a.1 a.2.1 a.2.2.1) rfl)
theorem zDK:aM 61 qS6:=dW gX (L:=noL) (J:=noL) (ka:=[.rcd 39,.int .i64,.int .i64]) (kr:=[.rcd 39,.rcd 53]) (by kernel_rfl) rfl rfl ((dSe,dOu,()):Se×Ou×Unit) (u:=qKA) rfl
def qHG(id:Nat)(st:St aC.T):Option (List Ld):=match id with
 | 16=>some ([.slot 10 (.int .i64)]++bK st 2 [.rcd 39]++bK st 6 [.rcd 47])
 | _=>none
def qHH(id:Nat)(st:St aC.T):Option (List Ld):=match id with
 | 12=>some (bK st 4 [.rcd 39]++bK st 5 [.rcd 53])
 | 17=>some (bK st 2 [.rcd 39]++bK st 6 [.rcd 47])
 | 22=>some (bK st 2 [.rcd 39]++bK st 6 [.rcd 47])
 | _=>none
def qEn:Ka [.rcd 39,.rcd 61]→Option (Ka [.rcd 39,.rcd 53]):=hide fun a=>(tree sJ qHG qHH 60 [.rcd 39,.rcd 61] [.rcd 39,.rcd 53] a).val
def xA(s:Se)(x:Ip):Bool:=(qEn (s,x,())).isSome
def vY(s:Se)(x:Ip):Se×Ou×Unit:=(qEn (s,x,())).getD ((dSe,dOu,()):Se×Ou×Unit)
def qKB:TB:=fzR (con [.rcd 39,.rcd 61] [.rcd 39,.rcd 53] (fun a=>xA a.1 a.2.1) (fun a=>vY a.1 a.2.1) rfl)
theorem qVA:aM 60 qKB:=dW gX (L:=qHG) (J:=qHH) (ka:=[.rcd 39,.rcd 61]) (kr:=[.rcd 39,.rcd 53]) (by kernel_rfl) rfl rfl ((dSe,dOu,()):Se×Ou×Unit) (u:=qEn) rfl
def qS7(id:Nat)(_st:St aC.T):Option (List Ld):=match id with
 | 3=>some ([.slot 3 (.str)]++[.slot 4 (.int .i64)])
 | 8=>some ([.slot 3 (.str)]++[.slot 5 (.int .i64)])
 | 13=>some ([.slot 3 (.str)]++[.slot 7 (.int .i64)])
 | _=>none
def qS8(id:Nat)(_st:St aC.T):Option (List Ld):=match id with
 | 6=>some ([.slot 3 (.str)])
 | 9=>some ([.slot 3 (.str)])
 | 16=>some ([.slot 3 (.str)])
 | _=>none
def qQd:Ka [.rcd 32]→Option (Ka [.str]):=hide fun a=>(tree sJ qS7 qS8 22 [.rcd 32] [.str] a).val
def qBO(c:Cf):Bool:=(qQd (c,())).isSome
def qAH(c:Cf):B×Unit:=(qQd (c,())).getD (([],()):B×Unit)
def qXQ:TB:=fM aC [.rcd 32] [.str] (fun a=>qBO a.1) (fun a=>qAH a.1)
theorem zHh:aM 22 qXQ:=bZ gX (L:=qS7) (J:=qS8) (ka:=[.rcd 32]) (kr:=[.str]) (by kernel_rfl) rfl rfl (([],()):B×Unit) (u:=qQd) rfl fun _=>rfl
def qN0(id:Nat)(_st:St aC.T):Option (List Ld):=match id with
 | 2=>some ([.slot 4 (.int .i64)])
 | _=>none
def qN1(id:Nat)(_st:St aC.T):Option (List Ld):=match id with
 | 4=>some ([.slot 4 (.int .i64)])
 | _=>none
def qKC:Ka [.str]→Option (Ka [.rcd 111,.bool]):=hide fun a=>(tree sJ qN0 qN1 278 [.str] [.rcd 111,.bool] a).val
def qCZ(s:B):Bool:=(qKC (s,())).isSome
def zR(s:B):Cp×Bool×Unit:=(qKC (s,())).getD ((dCp,false,()):Cp×Bool×Unit)
def qS9:TB:=fM aC [.str] [.rcd 111,.bool] (fun a=>qCZ a.1) (fun a=>zR a.1)
theorem zDL:aM 278 qS9:=bZ gX (L:=qN0) (J:=qN1) (ka:=[.str]) (kr:=[.rcd 111,.bool]) (by kernel_rfl) rfl rfl ((dCp,false,()):Cp×Bool×Unit) (u:=qKC) rfl fun _=>rfl
def qN2(id:Nat)(st:St aC.T):Option (List Ld):=match id with
 | 4=>some ([aY st 3 9 false]++[.slot 5 (.int .i64)])
 | _=>none
def qN3(id:Nat)(st:St aC.T):Option (List Ld):=match id with
 | 5=>some ([aY st 3 9 false])
 | _=>none
def qKD:Ka [.str]→Option (Ka [.dat 9]):=hide fun a=>(tree sJ qN2 qN3 222 [.str] [.dat 9] a).val
def qDa(s:B):Bool:=(qKD (s,())).isSome
def aS(s:B):(List B)×Unit:=(qKD (s,())).getD (([],()):(List B)×Unit)
def qSA:TB:=fzR (con [.str] [.dat 9] (fun a=>qDa a.1) (fun a=>aS a.1) rfl)
theorem zDM:aM 222 qSA:=dW gX (L:=qN2) (J:=qN3) (ka:=[.str]) (kr:=[.dat 9]) (by kernel_rfl) rfl rfl (([],()):(List B)×Unit) (u:=qKD) rfl
def qKE(id:Nat)(_st:St aC.T):Option (List Ld):=match id with
 | 3=>some ([.slot 3 (.int .i64)]++[.slot 4 (.int .i64)]++[.slot 5 (.int .i64)])
 | _=>none
def qKF(id:Nat)(_st:St aC.T):Option (List Ld):=match id with
 | 4=>some ([.slot 3 (.int .i64)]++[.slot 4 (.int .i64)])
 | _=>none
def qGI:Ka [.str]→Option (Ka [.bool]):=hide fun a=>(tree sJ qKE qKF 174 [.str] [.bool] a).val
def qAI(s:B):Bool:=(qGI (s,())).isSome
def qDb(s:B):Bool×Unit:=(qGI (s,())).getD ((false,()):Bool×Unit)
def qN4:TB:=fM aC [.str] [.bool] (fun a=>qAI a.1) (fun a=>qDb a.1)
theorem zAl:aM 174 qN4:=bZ gX (L:=qKE) (J:=qKF) (ka:=[.str]) (kr:=[.bool]) (by kernel_rfl) rfl rfl ((false,()):Bool×Unit) (u:=qGI) rfl fun _=>rfl
def qKG(id:Nat)(_st:St aC.T):Option (List Ld):=match id with
 | 6=>some ([.slot 3 (.int .i64)])
 | 11=>some ([.slot 4 (.int .i64)])
 | 14=>some ([.slot 5 (.int .i64)])
 | _=>none
def qGJ:Ka [.rcd 32]→Option (Ka [.int .i64]):=hide fun a=>(tree sJ qKG noL 105 [.rcd 32] [.int .i64] a).val
def vZ(c:Cf):Bool:=(qGJ (c,())).isSome
def zS(c:Cf):Int×Unit:=(qGJ (c,())).getD ((0,()):Int×Unit)
def qN5:TB:=fM aC [.rcd 32] [.int .i64] (fun a=>vZ a.1) (fun a=>zS a.1)
theorem zAm:aM 105 qN5:=bZ gX (L:=qKG) (J:=noL) (ka:=[.rcd 32]) (kr:=[.int .i64]) (by kernel_rfl) rfl rfl ((0,()):Int×Unit) (u:=qGJ) rfl fun _=>rfl
def qSB(id:Nat)(st:St aC.T):Option (List Ld):=match id with
 | 7=>some ([.slot 13 (.int .i64)]++bK st 11 [.rcd 27])
 | _=>none
def qSC(id:Nat)(st:St aC.T):Option (List Ld):=match id with
 | 8=>some (bK st 11 [.rcd 27])
 | 13=>some ([.slot 16 (.int .i64)])
 | _=>none
def qQe:Ka [.rcd 39,.str,.int .i64,.bool]→Option (Ka [.rcd 27]):=hide fun a=>(tree sJ qSB qSC 400 [.rcd 39,.str,.int .i64,.bool] [.rcd 27] a).val
def lW(s:Se)(path:B)(label:Int)(least:Bool):Bool:=(qQe (s,path,label,least,())).isSome
def fP(s:Se)(path:B)(label:Int)(least:Bool):Vec×Unit:=(qQe (s,path,label,least,())).getD ((gG,()):Vec×Unit)
def qXR:TB:=fM aC [.rcd 39,.str,.int .i64,.bool] [.rcd 27] (fun a=>lW a.1 a.2.1 a.2.2.1 a.2.2.2.1) (fun a=>fP a.1 a.2.1 a.2.2.1 a.2.2.2.1)
theorem zHi:aM 400 qXR:=bZ gX (L:=qSB) (J:=qSC) (ka:=[.rcd 39,.str,.int .i64,.bool]) (kr:=[.rcd 27]) (by kernel_rfl) rfl rfl ((gG,()):Vec×Unit) (u:=qQe) rfl fun _=>rfl
def AU2:Con aC.T:=oW [(334,qS2),(399,qNw),(516,qXP),(339,qHB),(336,qS4),(232,qS5),(289,qK8),(290,qK9),(61,qS6),(60,qKB),(22,qXQ),(278,qS9),(222,qSA),(174,qN4),(105,qN5),(400,qXR)] AU1
theorem zDN:iL Tryz.prog AU2:=fT (aA zDH (aA zAk (aA zHg (aA qS3 (aA zDI (aA zDJ (aA qV8 (aA qV9 (aA zDK (aA qVA (aA zHh (aA zDL (aA zDM (aA zAl (aA zAm (aA zHi (fH))))))))))))))))) zDG
def qSD:Hd aC.T:=hdT aC Tryz.prog AU2 (fun _=>false) 1000 5
theorem qFw:bJ Tryz.prog qSD:=bW mixed hno zDN _ _ _
def qVB:Ka [.rcd 27,.rcd 27,.rcd 27,.rcd 27]→Option (Ka [.int .i64]):=hide fun a=>(tree qSD noL noL 499 [.rcd 27,.rcd 27,.rcd 27,.rcd 27] [.int .i64] a).val
def qI9(a:Vec)(p:Vec)(b:Vec)(q:Vec):Bool:=(qVB (a,p,b,q,())).isSome
def qKH(a:Vec)(p:Vec)(b:Vec)(q:Vec):Int×Unit:=(qVB (a,p,b,q,())).getD ((0,()):Int×Unit)
def zDO:TB:=fM aC [.rcd 27,.rcd 27,.rcd 27,.rcd 27] [.int .i64] (fun a=>qI9 a.1 a.2.1 a.2.2.1 a.2.2.2.1) (fun a=>qKH a.1 a.2.1 a.2.2.1 a.2.2.2.1)
theorem zJL:aM 499 zDO:=bZ qFw (L:=noL) (J:=noL) (ka:=[.rcd 27,.rcd 27,.rcd 27,.rcd 27]) (kr:=[.int .i64]) (by kernel_rfl) rfl rfl ((0,()):Int×Unit) (u:=qVB) rfl fun _=>rfl
def qKI(id:Nat)(_st:St aC.T):Option (List Ld):=match id with
 | 5=>some ([.slot 10 (.int .i64)]++[.slot 11 (.int .i64)])
 | _=>none
def qKJ(id:Nat)(_st:St aC.T):Option (List Ld):=match id with
 | 6=>some ([.slot 10 (.int .i64)])
 | 10=>some ([.slot 12 (.int .i64)])
 | 12=>some ([.slot 10 (.int .i64)])
 | _=>none
def qGK:Ka [.dat 59,.rcd 27,.rcd 59,.int .i64]→Option (Ka [.int .i64,.int .i64]):=hide fun a=>(tree qSD qKI qKJ 156 [.dat 59,.rcd 27,.rcd 59,.int .i64] [.int .i64,.int .i64] a).val
def qAJ(l:List Pn)(total:Vec)(p:Pn)(long:Int):Bool:=(qGK (l,total,p,long,())).isSome
def kP(l:List Pn)(total:Vec)(p:Pn)(long:Int):Int×Int×Unit:=(qGK (l,total,p,long,())).getD ((0,0,()):Int×Int×Unit)
def qN6:TB:=fM aC [.dat 59,.rcd 27,.rcd 59,.int .i64] [.int .i64,.int .i64] (fun a=>qAJ a.1 a.2.1 a.2.2.1 a.2.2.2.1) (fun a=>kP a.1 a.2.1 a.2.2.1 a.2.2.2.1)
theorem zAn:aM 156 qN6:=bZ qFw (L:=qKI) (J:=qKJ) (ka:=[.dat 59,.rcd 27,.rcd 59,.int .i64]) (kr:=[.int .i64,.int .i64]) (by kernel_rfl) rfl rfl ((0,0,()):Int×Int×Unit) (u:=qGK) rfl fun _=>rfl
def qN7(id:Nat)(st:St aC.T):Option (List Ld):=match id with
 | 6=>some ([.slot 7 (.bool)]++[.slot 9 (.int .i64)]++bK st 8 [.str,.own (Nat.add st.hp.nx 50) 111 false,.int .i64])
 | _=>none
def qKK:Ka [.dat 9,.int .i64]→Option (Ka [.rcd 114,.bool]):=hide fun a=>(tree qSD qN7 noL 223 [.dat 9,.int .i64] [.rcd 114,.bool] a).val
def zT(w:List B)(labels:Int):Bool:=(qKK (w,labels,())).isSome
def bU(w:List B)(labels:Int):Qu×Bool×Unit:=(qKK (w,labels,())).getD ((dQu,false,()):Qu×Bool×Unit)
def qSE:TB:=fzR (con [.dat 9,.int .i64] [.rcd 114,.bool] (fun a=>zT a.1 a.2.1) (fun a=>bU a.1 a.2.1) rfl)
theorem zDP:aM 223 qSE:=dW qFw (L:=qN7) (J:=noL) (ka:=[.dat 9,.int .i64]) (kr:=[.rcd 114,.bool]) (by kernel_rfl) rfl rfl ((dQu,false,()):Qu×Bool×Unit) (u:=qKK) rfl
def qN8(id:Nat)(_st:St aC.T):Option (List Ld):=match id with
 | 12=>some ([.slot 8 (.int .i64)])
 | _=>none
def qKL:Ka [.rcd 32,.int .i64]→Option (Ka [.int .i64]):=hide fun a=>(tree qSD qN8 noL 106 [.rcd 32,.int .i64] [.int .i64] a).val
def zU(c:Cf)(i:Int):Bool:=(qKL (c,i,())).isSome
def qBP(c:Cf)(i:Int):Int×Unit:=(qKL (c,i,())).getD ((0,()):Int×Unit)
def qSF:TB:=fM aC [.rcd 32,.int .i64] [.int .i64] (fun a=>zU a.1 a.2.1) (fun a=>qBP a.1 a.2.1)
theorem zDQ:aM 106 qSF:=bZ qFw (L:=qN8) (J:=noL) (ka:=[.rcd 32,.int .i64]) (kr:=[.int .i64]) (by kernel_rfl) rfl rfl ((0,()):Int×Unit) (u:=qKL) rfl fun _=>rfl
def AU3:Con aC.T:=oW [(499,zDO),(156,qN6),(223,qSE),(106,qSF)] AU2
theorem qVC:iL Tryz.prog AU3:=fT (aA zJL (aA zAn (aA zDP (aA zDQ (fH))))) zDN
def qFx:Hd aC.T:=hdT aC Tryz.prog AU3 (fun _=>false) 1000 5
theorem sM:bJ Tryz.prog qFx:=bW mixed hno qVC _ _ _
def qN9(id:Nat)(_st:St aC.T):Option (List Ld):=match id with
 | 3=>some ([.slot 10 (.int .i64)])
 | _=>none
def qKM:Ka [.rcd 39,.str,.int .i64,.rcd 27]→Option (Ka [.bool]):=hide fun a=>(tree qFx qN9 noL 331 [.rcd 39,.str,.int .i64,.rcd 27] [.bool] a).val
def uV(s:Se)(path:B)(label:Int)(size:Vec):Bool:=(qKM (s,path,label,size,())).isSome
def zV(s:Se)(path:B)(label:Int)(size:Vec):Bool×Unit:=(qKM (s,path,label,size,())).getD ((false,()):Bool×Unit)
def qSG:TB:=fM aC [.rcd 39,.str,.int .i64,.rcd 27] [.bool] (fun a=>uV a.1 a.2.1 a.2.2.1 a.2.2.2.1) (fun a=>zV a.1 a.2.1 a.2.2.1 a.2.2.2.1)
theorem zDR:aM 331 qSG:=bZ sM (L:=qN9) (J:=noL) (ka:=[.rcd 39,.str,.int .i64,.rcd 27]) (kr:=[.bool]) (by kernel_rfl) rfl rfl ((false,()):Bool×Unit) (u:=qKM) rfl fun _=>rfl
def qGL:Ka [.rcd 39,.str,.str,.int .i64]→Option (Ka [.bool]):=hide fun a=>(tree qFx noL noL 474 [.rcd 39,.str,.str,.int .i64] [.bool] a).val
def qAK(s:Se)(a:B)(b:B)(label:Int):Bool:=(qGL (s,a,b,label,())).isSome
def qDc(s:Se)(a:B)(b:B)(label:Int):Bool×Unit:=(qGL (s,a,b,label,())).getD ((false,()):Bool×Unit)
def qNA:TB:=fM aC [.rcd 39,.str,.str,.int .i64] [.bool] (fun a=>qAK a.1 a.2.1 a.2.2.1 a.2.2.2.1) (fun a=>qDc a.1 a.2.1 a.2.2.1 a.2.2.2.1)
theorem zAo:aM 474 qNA:=bZ sM (L:=noL) (J:=noL) (ka:=[.rcd 39,.str,.str,.int .i64]) (kr:=[.bool]) (by kernel_rfl) rfl rfl ((false,()):Bool×Unit) (u:=qGL) rfl fun _=>rfl
def qQf:Ka [.rcd 39,.str,.rcd 95]→Option (Ka [.bool]):=hide fun a=>(tree qFx noL noL 328 [.rcd 39,.str,.rcd 95] [.bool] a).val
def qBQ(s:Se)(leaf:B)(a:Ak):Bool:=(qQf (s,leaf,a,())).isSome
def qAL(s:Se)(leaf:B)(a:Ak):Bool×Unit:=(qQf (s,leaf,a,())).getD ((false,()):Bool×Unit)
def qXS:TB:=fM aC [.rcd 39,.str,.rcd 95] [.bool] (fun a=>qBQ a.1 a.2.1 a.2.2.1) (fun a=>qAL a.1 a.2.1 a.2.2.1)
theorem zHj:aM 328 qXS:=bZ sM (L:=noL) (J:=noL) (ka:=[.rcd 39,.str,.rcd 95]) (kr:=[.bool]) (by kernel_rfl) rfl rfl ((false,()):Bool×Unit) (u:=qQf) rfl fun _=>rfl
def qSH(id:Nat)(_st:St aC.T):Option (List Ld):=match id with
 | 5=>some ([.slot 9 (.int .i64)]++[.slot 10 (.int .i64)])
 | _=>none
def qSI(id:Nat)(st:St aC.T):Option (List Ld):=match id with
 | 6=>some ([.slot 9 (.int .i64)])
 | 11=>some ([.slot 9 (.int .i64)])
 | 19=>some ([aY st 13 59 false])
 | 20=>some ([aY st 13 59 false])
 | _=>none
def qQg:Ka [.rcd 39,.rcd 59,.int .i64]→Option (Ka [.rcd 39,.int .i64,.int .i64]):=hide fun a=>(tree qFx qSH qSI 63 [.rcd 39,.rcd 59,.int .i64] [.rcd 39,.int .i64,.int .i64] a).val
def qFy(s:Se)(p:Pn)(long:Int):Bool:=(qQg (s,p,long,())).isSome
def qDd(s:Se)(p:Pn)(long:Int):Se×Int×Int×Unit:=(qQg (s,p,long,())).getD ((dSe,0,0,()):Se×Int×Int×Unit)
def qXT:TB:=fzR (con [.rcd 39,.rcd 59,.int .i64] [.rcd 39,.int .i64,.int .i64] (fun a=>qFy a.1 a.2.1 a.2.2.1) (fun a=>qDd a.1 a.2.1 a.2.2.1) rfl)
theorem zHk:aM 63 qXT:=dW sM (L:=qSH) (J:=qSI) (ka:=[.rcd 39,.rcd 59,.int .i64]) (kr:=[.rcd 39,.int .i64,.int .i64]) (by kernel_rfl) rfl rfl ((dSe,0,0,()):Se×Int×Int×Unit) (u:=qQg) rfl
def qDe(id:Nat)(st:St aC.T):Option (List Ld):=match id with
 | 6=>some ([aY st 10 3 false]++[aY st 12 3 false]++[aY st 11 3 false]++[.slot 13 (.int .i64)])
 | 14=>some ([aY st 15 285 false]++[.slot 16 (.int .i64)])
 | _=>none
def qDf(id:Nat)(st:St aC.T):Option (List Ld):=match id with
 | 9=>some ([aY st 10 3 false])
 | 10=>some ([aY st 12 3 false])
 | 11=>some ([aY st 10 3 false]++[aY st 12 3 false]++[aY st 11 3 false])
 | _=>none
def zDS(ok:Ka [.rcd 39,.str,.int .i64,.int .i64]→Bool)(m:Ka [.rcd 39,.str,.int .i64,.int .i64]→Ka [.dat 285]):Con aC.T:=oW [(337,fzR (con [.rcd 39,.str,.int .i64,.int .i64] [.dat 285] ok m rfl))] AU3
def qDg(ok:Ka [.rcd 39,.str,.int .i64,.int .i64]→Bool)(m:Ka [.rcd 39,.str,.int .i64,.int .i64]→Ka [.dat 285]):Hd aC.T:=hdT aC Tryz.prog (zDS ok m) (fun _=>false) 1000 5
def kK:Nat→Ka [.rcd 39,.str,.int .i64,.int .i64]→Option (Ka [.dat 285])
 | 0=>fun _=>none
 | n+1=>hide fun a=>(tree (qDg (fun a=>(kK n a).isSome) fun a=>(kK n a).getD (([],()):(List Sh)×Unit)) qDe qDf 337 [.rcd 39,.str,.int .i64,.int .i64] [.dat 285] a).val
theorem qNB:∀n,aM 337 (fzR (con [.rcd 39,.str,.int .i64,.int .i64] [.dat 285] (fun a=>(kK n a).isSome) (fun a=>(kK n a).getD (([],()):(List Sh)×Unit)) rfl))
 | 0=>qV1 (by kernel_rfl) rfl rfl _
 | n+1=>dW (hd:=qDg (fun a=>(kK n a).isSome) fun a=>(kK n a).getD (([],()):(List Sh)×Unit)) (bW mixed hno (fT (aA (qNB n) fH) qVC) _ _ _) (L:=qDe) (J:=qDf) (ka:=[.rcd 39,.str,.int .i64,.int .i64]) (kr:=[.dat 285]) (by kernel_rfl) rfl rfl (([],()):(List Sh)×Unit) (u:=kK (n+1)) rfl
theorem zDT(n:Nat)(a:Ka [.rcd 39,.str,.int .i64,.int .i64]):kK (n+1) a=(tree (qDg (fun a=>(kK n a).isSome) fun a=>(kK n a).getD (([],()):(List Sh)×Unit)) qDe qDf 337 [.rcd 39,.str,.int .i64,.int .i64] [.dat 285] a).val:=congrFun (qA2 _) a
def wB(fu:Nat)(s:Se)(path:B)(label:Int)(mem:Int):Bool:=(kK fu (s,path,label,mem,())).isSome
def zW(fu:Nat)(s:Se)(path:B)(label:Int)(mem:Int):(List Sh)×Unit:=(kK fu (s,path,label,mem,())).getD (([],()):(List Sh)×Unit)
def qGM(s:Se)(path:B)(label:Int)(mem:Int):Bool:=wB 9 s path label mem
def sN(s:Se)(path:B)(label:Int)(mem:Int):(List Sh)×Unit:=zW 9 s path label mem
def qSJ:TB:=fzR (con [.rcd 39,.str,.int .i64,.int .i64] [.dat 285] (fun a=>qGM a.1 a.2.1 a.2.2.1 a.2.2.2.1) (fun a=>sN a.1 a.2.1 a.2.2.1 a.2.2.2.1) rfl)
theorem zDU:aM 337 qSJ:=qNB 9
def qKN(id:Nat)(_st:St aC.T):Option (List Ld):=match id with
 | 3=>some ([.slot 9 (.int .i64)])
 | 7=>some ([.slot 11 (.int .i64)])
 | _=>none
def qGN:Ka [.rcd 39,.str,.int .i64]→Option (Ka [.int .i64]):=hide fun a=>(tree qFx qKN noL 288 [.rcd 39,.str,.int .i64] [.int .i64] a).val
def qAM(s:Se)(path:B)(label:Int):Bool:=(qGN (s,path,label,())).isSome
def qDh(s:Se)(path:B)(label:Int):Int×Unit:=(qGN (s,path,label,())).getD ((0,()):Int×Unit)
def qNC:TB:=fM aC [.rcd 39,.str,.int .i64] [.int .i64] (fun a=>qAM a.1 a.2.1 a.2.2.1) (fun a=>qDh a.1 a.2.1 a.2.2.1)
theorem zAp:aM 288 qNC:=bZ sM (L:=qKN) (J:=noL) (ka:=[.rcd 39,.str,.int .i64]) (kr:=[.int .i64]) (by kernel_rfl) rfl rfl ((0,()):Int×Unit) (u:=qGN) rfl fun _=>rfl
def qND(id:Nat)(st:St aC.T):Option (List Ld):=match id with
 | 7=>some ([.slot 5 (.bool)]++[.slot 7 (.int .i64)]++bK st 4 [.rcd 32])
 | 23=>some ([.slot 11 (.int .i64)])
 | _=>none
def qNE(id:Nat)(st:St aC.T):Option (List Ld):=match id with
 | 8=>some ([.slot 5 (.bool)]++bK st 4 [.rcd 32])
 | 25=>some ([.slot 11 (.int .i64)])
 | 27=>some ([aY st 12 114 false])
 | 28=>some ([.slot 5 (.bool)]++bK st 4 [.rcd 32])
 | _=>none
def qKO:Ka [.str]→Option (Ka [.rcd 32,.int .i64]):=hide fun a=>(tree qFx qND qNE 132 [.str] [.rcd 32,.int .i64] a).val
def qDi(s:B):Bool:=(qKO (s,())).isSome
def jM(s:B):Cf×Int×Unit:=(qKO (s,())).getD ((dCf,0,()):Cf×Int×Unit)
def qSK:TB:=fzR (con [.str] [.rcd 32,.int .i64] (fun a=>qDi a.1) (fun a=>jM a.1) rfl)
theorem zDV:aM 132 qSK:=dW sM (L:=qND) (J:=qNE) (ka:=[.str]) (kr:=[.rcd 32,.int .i64]) (by kernel_rfl) rfl rfl ((dCf,0,()):Cf×Int×Unit) (u:=qKO) rfl
def qNF(id:Nat)(_st:St aC.T):Option (List Ld):=match id with
 | 6=>some ([.slot 3 (.int .i64)])
 | 11=>some ([.slot 4 (.int .i64)])
 | _=>none
def qKP:Ka [.rcd 32]→Option (Ka [.int .i64]):=hide fun a=>(tree qFx qNF noL 43 [.rcd 32] [.int .i64] a).val
def qDj(c:Cf):Bool:=(qKP (c,())).isSome
def qFz(c:Cf):Int×Unit:=(qKP (c,())).getD ((0,()):Int×Unit)
def qSL:TB:=fM aC [.rcd 32] [.int .i64] (fun a=>qDj a.1) (fun a=>qFz a.1)
theorem zDW:aM 43 qSL:=bZ sM (L:=qNF) (J:=noL) (ka:=[.rcd 32]) (kr:=[.int .i64]) (by kernel_rfl) rfl rfl ((0,()):Int×Unit) (u:=qKP) rfl fun _=>rfl
def qQh:Ka [.rcd 39,.str,.int .i64]→Option (Ka [.rcd 27]):=hide fun a=>(tree qFx noL noL 388 [.rcd 39,.str,.int .i64] [.rcd 27] a).val
def qF0(s:Se)(path:B)(label:Int):Bool:=(qQh (s,path,label,())).isSome
def qF1(s:Se)(path:B)(label:Int):Vec×Unit:=(qQh (s,path,label,())).getD ((gG,()):Vec×Unit)
def qXU:TB:=fM aC [.rcd 39,.str,.int .i64] [.rcd 27] (fun a=>qF0 a.1 a.2.1 a.2.2.1) (fun a=>qF1 a.1 a.2.1 a.2.2.1)
theorem zHl:aM 388 qXU:=bZ sM (L:=noL) (J:=noL) (ka:=[.rcd 39,.str,.int .i64]) (kr:=[.rcd 27]) (by kernel_rfl) rfl rfl ((gG,()):Vec×Unit) (u:=qQh) rfl fun _=>rfl
def AU4:Con aC.T:=oW [(331,qSG),(474,qNA),(328,qXS),(63,qXT),(337,qSJ),(288,qNC),(132,qSK),(43,qSL),(388,qXU)] AU3
theorem zDX:iL Tryz.prog AU4:=fT (aA zDR (aA zAo (aA zHj (aA zHk (aA zDU (aA zAp (aA zDV (aA zDW (aA zHl (fH)))))))))) qVC
def qNG:Hd aC.T:=hdT aC Tryz.prog AU4 (fun _=>false) 1000 5
theorem qBR:bJ Tryz.prog qNG:=bW mixed hno zDX _ _ _
def qNH(id:Nat)(st:St aC.T):Option (List Ld):=match id with
 | 4=>some ([aY st 8 9 false]++[.slot 9 (.int .i64)])
 | 7=>some ([.slot 10 (.int .i64)])
 | _=>none
def qNI(id:Nat)(st:St aC.T):Option (List Ld):=match id with
 | 5=>some ([aY st 8 9 false])
 | 9=>some ([.slot 10 (.int .i64)])
 | 10=>some ([aY st 11 9 false])
 | 11=>some ([aY st 11 9 false])
 | _=>none
def qKQ:Ka [.rcd 39,.str,.int .i64]→Option (Ka [.dat 9]):=hide fun a=>(tree qNG qNH qNI 433 [.rcd 39,.str,.int .i64] [.dat 9] a).val
def qDk(s:Se)(path:B)(label:Int):Bool:=(qKQ (s,path,label,())).isSome
def lX(s:Se)(path:B)(label:Int):(List B)×Unit:=(qKQ (s,path,label,())).getD (([],()):(List B)×Unit)
def qSM:TB:=fzR (con [.rcd 39,.str,.int .i64] [.dat 9] (fun a=>qDk a.1 a.2.1 a.2.2.1) (fun a=>lX a.1 a.2.1 a.2.2.1) rfl)
theorem zDY:aM 433 qSM:=dW qBR (L:=qNH) (J:=qNI) (ka:=[.rcd 39,.str,.int .i64]) (kr:=[.dat 9]) (by kernel_rfl) rfl rfl (([],()):(List B)×Unit) (u:=qKQ) rfl
def qSN(id:Nat)(st:St aC.T):Option (List Ld):=match id with
 | 8=>some (bK st 7 [.rcd 47]++bK st 5 [.rcd 39])
 | _=>none
def qQi:Ka [.rcd 39,.rcd 57,.rcd 47,.rcd 95,.bool]→Option (Ka [.rcd 39,.int .i64,.rcd 50]):=hide fun a=>(tree qNG noL qSN 335 [.rcd 39,.rcd 57,.rcd 47,.rcd 95,.bool] [.rcd 39,.int .i64,.rcd 50] a).val
def qF2(s:Se)(n:Nd)(a:Ap)(x:Ak)(first:Bool):Bool:=(qQi (s,n,a,x,first,())).isSome
def xB(s:Se)(n:Nd)(a:Ap)(x:Ak)(first:Bool):Se×Int×Ct×Unit:=(qQi (s,n,a,x,first,())).getD ((dSe,0,dCt,()):Se×Int×Ct×Unit)
def qXV:TB:=fzR (con [.rcd 39,.rcd 57,.rcd 47,.rcd 95,.bool] [.rcd 39,.int .i64,.rcd 50] (fun a=>qF2 a.1 a.2.1 a.2.2.1 a.2.2.2.1 a.2.2.2.2.1) (fun a=>xB a.1 a.2.1 a.2.2.1 a.2.2.2.1 a.2.2.2.2.1) rfl)
theorem zHm:aM 335 qXV:=dW qBR (L:=noL) (J:=qSN) (ka:=[.rcd 39,.rcd 57,.rcd 47,.rcd 95,.bool]) (kr:=[.rcd 39,.int .i64,.rcd 50]) (by kernel_rfl) rfl rfl ((dSe,0,dCt,()):Se×Int×Ct×Unit) (u:=qQi) rfl
def qKR:Ka [.rcd 39,.str,.int .i64,.int .i64]→Option (Ka [.bool]):=hide fun a=>(tree qNG noL noL 329 [.rcd 39,.str,.int .i64,.int .i64] [.bool] a).val
def zX(s:Se)(leaf:B)(label:Int)(user:Int):Bool:=(qKR (s,leaf,label,user,())).isSome
def qBS(s:Se)(leaf:B)(label:Int)(user:Int):Bool×Unit:=(qKR (s,leaf,label,user,())).getD ((false,()):Bool×Unit)
def qSO:TB:=fM aC [.rcd 39,.str,.int .i64,.int .i64] [.bool] (fun a=>zX a.1 a.2.1 a.2.2.1 a.2.2.2.1) (fun a=>qBS a.1 a.2.1 a.2.2.1 a.2.2.2.1)
theorem zDZ:aM 329 qSO:=bZ qBR (L:=noL) (J:=noL) (ka:=[.rcd 39,.str,.int .i64,.int .i64]) (kr:=[.bool]) (by kernel_rfl) rfl rfl ((false,()):Bool×Unit) (u:=qKR) rfl fun _=>rfl
def qHI(id:Nat)(st:St aC.T):Option (List Ld):=match id with
 | 4=>some ([aY st 5 285 false]++[.slot 7 (.int .i64)])
 | 7=>some ([.slot 8 (.int .i64)])
 | _=>none
def qHJ(id:Nat)(st:St aC.T):Option (List Ld):=match id with
 | 5=>some ([aY st 5 285 false])
 | 9=>some ([.slot 8 (.int .i64)])
 | 10=>some ([aY st 9 285 false])
 | 11=>some ([aY st 9 285 false])
 | _=>none
def qEo:Ka [.rcd 39,.int .i64]→Option (Ka [.dat 285]):=hide fun a=>(tree qNG qHI qHJ 287 [.rcd 39,.int .i64] [.dat 285] a).val
def sO(s:Se)(label:Int):Bool:=(qEo (s,label,())).isSome
def bP(s:Se)(label:Int):(List Sh)×Unit:=(qEo (s,label,())).getD (([],()):(List Sh)×Unit)
def qKS:TB:=fzR (con [.rcd 39,.int .i64] [.dat 285] (fun a=>sO a.1 a.2.1) (fun a=>bP a.1 a.2.1) rfl)
theorem qVD:aM 287 qKS:=dW qBR (L:=qHI) (J:=qHJ) (ka:=[.rcd 39,.int .i64]) (kr:=[.dat 285]) (by kernel_rfl) rfl rfl (([],()):(List Sh)×Unit) (u:=qEo) rfl
def qHK(id:Nat)(_st:St aC.T):Option (List Ld):=match id with
 | 9=>some ([.slot 8 (.int .i64)])
 | 14=>some ([.slot 9 (.int .i64)])
 | _=>none
def qHL(id:Nat)(_st:St aC.T):Option (List Ld):=match id with
 | 4=>some ([.slot 7 (.int .i64)])
 | _=>none
def qEp:Ka [.rcd 39,.str]→Option (Ka [.rcd 39,.rcd 53]):=hide fun a=>(tree qNG qHK qHL 56 [.rcd 39,.str] [.rcd 39,.rcd 53] a).val
def xC(s:Se)(text:B):Bool:=(qEp (s,text,())).isSome
def wC(s:Se)(text:B):Se×Ou×Unit:=(qEp (s,text,())).getD ((dSe,dOu,()):Se×Ou×Unit)
def qKT:TB:=fzR (con [.rcd 39,.str] [.rcd 39,.rcd 53] (fun a=>xC a.1 a.2.1) (fun a=>wC a.1 a.2.1) rfl)
theorem qVE:aM 56 qKT:=dW qBR (L:=qHK) (J:=qHL) (ka:=[.rcd 39,.str]) (kr:=[.rcd 39,.rcd 53]) (by kernel_rfl) rfl rfl ((dSe,dOu,()):Se×Ou×Unit) (u:=qEp) rfl
def AU5:Con aC.T:=oW [(433,qSM),(335,qXV),(329,qSO),(287,qKS),(56,qKT)] AU4
theorem qVF:iL Tryz.prog AU5:=fT (aA zDY (aA zHm (aA zDZ (aA qVD (aA qVE (fH)))))) zDX
def qXW:Hd aC.T:=hdT aC Tryz.prog AU5 (fun _=>false) 1000 5
theorem qKU:bJ Tryz.prog qXW:=bW mixed hno qVF _ _ _
def xD(id:Nat)(st:St aC.T):Option (List Ld):=match id with
 | 6=>some ([aY st 8 9 false]++[.slot 9 (.int .i64)])
 | _=>none
def qVG(ok:Ka [.rcd 39,.str,.int .i64]→Bool)(m:Ka [.rcd 39,.str,.int .i64]→Ka [.dat 9]):Con aC.T:=oW [(394,fzR (con [.rcd 39,.str,.int .i64] [.dat 9] ok m rfl))] AU5
def xE(ok:Ka [.rcd 39,.str,.int .i64]→Bool)(m:Ka [.rcd 39,.str,.int .i64]→Ka [.dat 9]):Hd aC.T:=hdT aC Tryz.prog (qVG ok m) (fun _=>false) 1000 5
def gT:Nat→Ka [.rcd 39,.str,.int .i64]→Option (Ka [.dat 9])
 | 0=>fun _=>none
 | n+1=>hide fun a=>(tree (xE (fun a=>(gT n a).isSome) fun a=>(gT n a).getD (([],()):(List B)×Unit)) xD noL 394 [.rcd 39,.str,.int .i64] [.dat 9] a).val
theorem qHM:∀n,aM 394 (fzR (con [.rcd 39,.str,.int .i64] [.dat 9] (fun a=>(gT n a).isSome) (fun a=>(gT n a).getD (([],()):(List B)×Unit)) rfl))
 | 0=>qV1 (by kernel_rfl) rfl rfl _
 | n+1=>dW (hd:=xE (fun a=>(gT n a).isSome) fun a=>(gT n a).getD (([],()):(List B)×Unit)) (bW mixed hno (fT (aA (qHM n) fH) qVF) _ _ _) (L:=xD) (J:=noL) (ka:=[.rcd 39,.str,.int .i64]) (kr:=[.dat 9]) (by kernel_rfl) rfl rfl (([],()):(List B)×Unit) (u:=gT (n+1)) rfl
theorem qVH(n:Nat)(a:Ka [.rcd 39,.str,.int .i64]):gT (n+1) a=(tree (xE (fun a=>(gT n a).isSome) fun a=>(gT n a).getD (([],()):(List B)×Unit)) xD noL 394 [.rcd 39,.str,.int .i64] [.dat 9] a).val:=congrFun (qA2 _) a
def pQ(fu:Nat)(s:Se)(path:B)(label:Int):Bool:=(gT fu (s,path,label,())).isSome
def sP(fu:Nat)(s:Se)(path:B)(label:Int):(List B)×Unit:=(gT fu (s,path,label,())).getD (([],()):(List B)×Unit)
def qBT(s:Se)(path:B)(label:Int):Bool:=pQ 9 s path label
def bL(s:Se)(path:B)(label:Int):(List B)×Unit:=sP 9 s path label
def qKV:TB:=fzR (con [.rcd 39,.str,.int .i64] [.dat 9] (fun a=>qBT a.1 a.2.1 a.2.2.1) (fun a=>bL a.1 a.2.1 a.2.2.1) rfl)
theorem qVI:aM 394 qKV:=qHM 9
def qKW:Ka [.rcd 39,.rcd 57,.rcd 85]→Option (Ka [.rcd 39,.int .i64,.rcd 50,.bool]):=hide fun a=>(tree qXW noL noL 280 [.rcd 39,.rcd 57,.rcd 85] [.rcd 39,.int .i64,.rcd 50,.bool] a).val
def qDl(s:Se)(n:Nd)(x:Sl):Bool:=(qKW (s,n,x,())).isSome
def sQ(s:Se)(n:Nd)(x:Sl):Se×Int×Ct×Bool×Unit:=(qKW (s,n,x,())).getD ((dSe,0,dCt,false,()):Se×Int×Ct×Bool×Unit)
def qSP:TB:=fzR (con [.rcd 39,.rcd 57,.rcd 85] [.rcd 39,.int .i64,.rcd 50,.bool] (fun a=>qDl a.1 a.2.1 a.2.2.1) (fun a=>sQ a.1 a.2.1 a.2.2.1) rfl)
theorem zEa:aM 280 qSP:=dW qKU (L:=noL) (J:=noL) (ka:=[.rcd 39,.rcd 57,.rcd 85]) (kr:=[.rcd 39,.int .i64,.rcd 50,.bool]) (by kernel_rfl) rfl rfl ((dSe,0,dCt,false,()):Se×Int×Ct×Bool×Unit) (u:=qKW) rfl
def qSQ(id:Nat)(_st:St aC.T):Option (List Ld):=match id with
 | 3=>some ([.slot 8 (.int .i64)])
 | _=>none
def qQj:Ka [.rcd 39,.int .i64,.str]→Option (Ka [.int .i64]):=hide fun a=>(tree qXW qSQ noL 286 [.rcd 39,.int .i64,.str] [.int .i64] a).val
def qF3(s:Se)(label:Int)(path:B):Bool:=(qQj (s,label,path,())).isSome
def qIA(s:Se)(label:Int)(path:B):Int×Unit:=(qQj (s,label,path,())).getD ((0,()):Int×Unit)
def qXX:TB:=fM aC [.rcd 39,.int .i64,.str] [.int .i64] (fun a=>qF3 a.1 a.2.1 a.2.2.1) (fun a=>qIA a.1 a.2.1 a.2.2.1)
theorem zHn:aM 286 qXX:=bZ qKU (L:=qSQ) (J:=noL) (ka:=[.rcd 39,.int .i64,.str]) (kr:=[.int .i64]) (by kernel_rfl) rfl rfl ((0,()):Int×Unit) (u:=qQj) rfl fun _=>rfl
def qNJ(id:Nat)(st:St aC.T):Option (List Ld):=match id with
 | 4=>some ([.slot 6 (.int .i64)]++[.slot 7 (.int .i64)])
 | 8=>some ([aY st 8 3 false])
 | 11=>some ([.slot 9 (.int .i64)]++[.slot 11 (.int .i64)]++bK st 10 [.rcd 50])
 | _=>none
def qNK(id:Nat)(st:St aC.T):Option (List Ld):=match id with
 | 7=>some ([.slot 6 (.int .i64)])
 | 12=>some ([.slot 9 (.int .i64)]++bK st 10 [.rcd 50])
 | 18=>some ([.slot 9 (.int .i64)]++bK st 10 [.rcd 50])
 | _=>none
def qKX:Ka [.rcd 39,.int .i64]→Option (Ka [.dat 3]):=hide fun a=>(tree qXW qNJ qNK 229 [.rcd 39,.int .i64] [.dat 3] a).val
def qDm(s:Se)(label:Int):Bool:=(qKX (s,label,())).isSome
def wD(s:Se)(label:Int):(List Int)×Unit:=(qKX (s,label,())).getD (([],()):(List Int)×Unit)
def qSR:TB:=fzR (con [.rcd 39,.int .i64] [.dat 3] (fun a=>qDm a.1 a.2.1) (fun a=>wD a.1 a.2.1) rfl)
theorem zEb:aM 229 qSR:=dW qKU (L:=qNJ) (J:=qNK) (ka:=[.rcd 39,.int .i64]) (kr:=[.dat 3]) (by kernel_rfl) rfl rfl (([],()):(List Int)×Unit) (u:=qKX) rfl
def AU6:Con aC.T:=oW [(394,qKV),(280,qSP),(286,qXX),(229,qSR)] AU5
theorem zEc:iL Tryz.prog AU6:=fT (aA qVI (aA zEa (aA zHn (aA zEb (fH))))) qVF
def zEd:Hd aC.T:=hdT aC Tryz.prog AU6 (fun _=>false) 1000 5
theorem qSS:bJ Tryz.prog zEd:=bW mixed hno zEc _ _ _
def qNL(id:Nat)(st:St aC.T):Option (List Ld):=match id with
 | 3=>some ([aY st 5 50 false]++[.slot 6 (.int .i64)])
 | 9=>some ([.slot 8 (.int .i64)]++bK st 2 [.rcd 39])
 | _=>none
def qNM(id:Nat)(st:St aC.T):Option (List Ld):=match id with
 | 4=>some ([aY st 5 50 false])
 | 8=>some ([aY st 5 50 false])
 | 10=>some (bK st 2 [.rcd 39])
 | _=>none
def qKY:Ka [.rcd 39,.int .i64]→Option (Ka [.rcd 39]):=hide fun a=>(tree zEd qNL qNM 228 [.rcd 39,.int .i64] [.rcd 39] a).val
def qDn(s:Se)(label:Int):Bool:=(qKY (s,label,())).isSome
def pR(s:Se)(label:Int):Se×Unit:=(qKY (s,label,())).getD ((dSe,()):Se×Unit)
def qST:TB:=fzR (con [.rcd 39,.int .i64] [.rcd 39] (fun a=>qDn a.1 a.2.1) (fun a=>pR a.1 a.2.1) rfl)
theorem zEe:aM 228 qST:=dW qSS (L:=qNL) (J:=qNM) (ka:=[.rcd 39,.int .i64]) (kr:=[.rcd 39]) (by kernel_rfl) rfl rfl ((dSe,()):Se×Unit) (u:=qKY) rfl
def qKZ(id:Nat)(st:St aC.T):Option (List Ld):=match id with
 | 3=>some ([.slot 10 (.int .i64)]++bK st 3 [.rcd 39])
 | 7=>some ([.slot 12 (.int .i64)]++bK st 3 [.rcd 39])
 | 12=>some ([.slot 15 (.int .i64)]++bK st 3 [.rcd 39])
 | _=>none
def qLa(id:Nat)(st:St aC.T):Option (List Ld):=match id with
 | 4=>some (bK st 3 [.rcd 39])
 | 8=>some (bK st 3 [.rcd 39])
 | 13=>some (bK st 3 [.rcd 39])
 | _=>none
def qGO:Ka [.rcd 39,.rcd 57,.bool]→Option (Ka [.rcd 39,.int .i64,.rcd 50]):=hide fun a=>(tree zEd qKZ qLa 281 [.rcd 39,.rcd 57,.bool] [.rcd 39,.int .i64,.rcd 50] a).val
def oH(s:Se)(n:Nd)(first:Bool):Bool:=(qGO (s,n,first,())).isSome
def dB(s:Se)(n:Nd)(first:Bool):Se×Int×Ct×Unit:=(qGO (s,n,first,())).getD ((dSe,0,dCt,()):Se×Int×Ct×Unit)
def qNN:TB:=fzR (con [.rcd 39,.rcd 57,.bool] [.rcd 39,.int .i64,.rcd 50] (fun a=>oH a.1 a.2.1 a.2.2.1) (fun a=>dB a.1 a.2.1 a.2.2.1) rfl)
theorem zAq:aM 281 qNN:=dW qSS (L:=qKZ) (J:=qLa) (ka:=[.rcd 39,.rcd 57,.bool]) (kr:=[.rcd 39,.int .i64,.rcd 50]) (by kernel_rfl) rfl rfl ((dSe,0,dCt,()):Se×Int×Ct×Unit) (u:=qGO) rfl
def AU7:Con aC.T:=oW [(228,qST),(281,qNN)] AU6
theorem zEf:iL Tryz.prog AU7:=fT (aA zEe (aA zAq (fH))) zEc
def zEg:Hd aC.T:=hdT aC Tryz.prog AU7 (fun _=>false) 1000 5
theorem qSU:bJ Tryz.prog zEg:=bW mixed hno zEf _ _ _
def qLb(id:Nat)(st:St aC.T):Option (List Ld):=match id with
 | 3=>some ([.slot 5 (.int .i64)]++bK st 1 [.rcd 39])
 | 8=>some ([.slot 7 (.int .i64)]++bK st 1 [.rcd 39])
 | _=>none
def qLc(id:Nat)(st:St aC.T):Option (List Ld):=match id with
 | 4=>some (bK st 1 [.rcd 39])
 | 11=>some (bK st 1 [.rcd 39])
 | _=>none
def qGP:Ka [.rcd 39]→Option (Ka [.rcd 39,.dat 3]):=hide fun a=>(tree zEg qLb qLc 154 [.rcd 39] [.rcd 39,.dat 3] a).val
def qAN(s:Se):Bool:=(qGP (s,())).isSome
def uW(s:Se):Se×(List Int)×Unit:=(qGP (s,())).getD ((dSe,[],()):Se×(List Int)×Unit)
def qNO:TB:=fzR (con [.rcd 39] [.rcd 39,.dat 3] (fun a=>qAN a.1) (fun a=>uW a.1) rfl)
theorem zAr:aM 154 qNO:=dW qSU (L:=qLb) (J:=qLc) (ka:=[.rcd 39]) (kr:=[.rcd 39,.dat 3]) (by kernel_rfl) rfl rfl ((dSe,[],()):Se×(List Int)×Unit) (u:=qGP) rfl
def qSV(id:Nat)(st:St aC.T):Option (List Ld):=match id with
 | 10=>some (bK st 2 [.rcd 39]++bK st 4 [.rcd 39]++bK st 6 [.rcd 50])
 | _=>none
def qQk:Ka [.rcd 39,.int .i64]→Option (Ka [.rcd 39,.int .i64,.rcd 50]):=hide fun a=>(tree zEg noL qSV 225 [.rcd 39,.int .i64] [.rcd 39,.int .i64,.rcd 50] a).val
def qF4(s:Se)(node:Int):Bool:=(qQk (s,node,())).isSome
def xG(s:Se)(node:Int):Se×Int×Ct×Unit:=(qQk (s,node,())).getD ((dSe,0,dCt,()):Se×Int×Ct×Unit)
def qXY:TB:=fzR (con [.rcd 39,.int .i64] [.rcd 39,.int .i64,.rcd 50] (fun a=>qF4 a.1 a.2.1) (fun a=>xG a.1 a.2.1) rfl)
theorem zHo:aM 225 qXY:=dW qSU (L:=noL) (J:=qSV) (ka:=[.rcd 39,.int .i64]) (kr:=[.rcd 39,.int .i64,.rcd 50]) (by kernel_rfl) rfl rfl ((dSe,0,dCt,()):Se×Int×Ct×Unit) (u:=qQk) rfl
def AU8:Con aC.T:=oW [(154,qNO),(225,qXY)] AU7
theorem zEh:iL Tryz.prog AU8:=fT (aA zAr (aA zHo (fH))) zEf
def zEi:Hd aC.T:=hdT aC Tryz.prog AU8 (fun _=>false) 1000 5
theorem qSW:bJ Tryz.prog zEi:=bW mixed hno zEh _ _ _
def qNP(id:Nat)(st:St aC.T):Option (List Ld):=match id with
 | 9=>some ([.slot 8 (.int .i64)]++bK st 2 [.rcd 39])
 | 15=>some ([.slot 9 (.int .i64)]++bK st 2 [.rcd 39])
 | 20=>some ([aY st 10 59 false]++[.slot 11 (.int .i64)])
 | _=>none
def qNQ(id:Nat)(st:St aC.T):Option (List Ld):=match id with
 | 13=>some (bK st 2 [.rcd 39])
 | 18=>some (bK st 2 [.rcd 39])
 | 21=>some ([aY st 10 59 false])
 | 24=>some ([aY st 10 59 false])
 | _=>none
def qLd:Ka [.rcd 39,.int .i64]→Option (Ka [.rcd 39,.rcd 53]):=hide fun a=>(tree zEi qNP qNQ 62 [.rcd 39,.int .i64] [.rcd 39,.rcd 53] a).val
def qDo(s:Se)(n:Int):Bool:=(qLd (s,n,())).isSome
def qBU(s:Se)(n:Int):Se×Ou×Unit:=(qLd (s,n,())).getD ((dSe,dOu,()):Se×Ou×Unit)
def qSX:TB:=fzR (con [.rcd 39,.int .i64] [.rcd 39,.rcd 53] (fun a=>qDo a.1 a.2.1) (fun a=>qBU a.1 a.2.1) rfl)
theorem zEj:aM 62 qSX:=dW qSW (L:=qNP) (J:=qNQ) (ka:=[.rcd 39,.int .i64]) (kr:=[.rcd 39,.rcd 53]) (by kernel_rfl) rfl rfl ((dSe,dOu,()):Se×Ou×Unit) (u:=qLd) rfl
def qNR(id:Nat)(st:St aC.T):Option (List Ld):=match id with
 | 3=>some ([aY st 6 50 false]++[.slot 7 (.int .i64)]++bK st 2 [.rcd 39])
 | _=>none
def qNS(id:Nat)(st:St aC.T):Option (List Ld):=match id with
 | 4=>some ([aY st 6 50 false]++bK st 2 [.rcd 39])
 | _=>none
def qLe:Ka [.rcd 39,.int .i64]→Option (Ka [.rcd 39,.dat 50]):=hide fun a=>(tree zEi qNR qNS 138 [.rcd 39,.int .i64] [.rcd 39,.dat 50] a).val
def uX(s:Se)(node:Int):Bool:=(qLe (s,node,())).isSome
def jN(s:Se)(node:Int):Se×(List Ct)×Unit:=(qLe (s,node,())).getD ((dSe,[],()):Se×(List Ct)×Unit)
def qSY:TB:=fzR (con [.rcd 39,.int .i64] [.rcd 39,.dat 50] (fun a=>uX a.1 a.2.1) (fun a=>jN a.1 a.2.1) rfl)
theorem zEk:aM 138 qSY:=dW qSW (L:=qNR) (J:=qNS) (ka:=[.rcd 39,.int .i64]) (kr:=[.rcd 39,.dat 50]) (by kernel_rfl) rfl rfl ((dSe,[],()):Se×(List Ct)×Unit) (u:=qLe) rfl
def AU9:Con aC.T:=oW [(62,qSX),(138,qSY)] AU8
theorem zEl:iL Tryz.prog AU9:=fT (aA zEj (aA zEk (fH))) zEh
def zIA:Hd aC.T:=hdT aC Tryz.prog AU9 (fun _=>false) 1000 5
theorem zEm:bJ Tryz.prog zIA:=bW mixed hno zEl _ _ _
def qNT(id:Nat)(st:St aC.T):Option (List Ld):=match id with
 | 9=>some ([aY st 10 3 false]++[.slot 11 (.int .i64)])
 | _=>none
def qNU(id:Nat)(st:St aC.T):Option (List Ld):=match id with
 | 10=>some ([aY st 10 3 false])
 | 14=>some ([aY st 10 3 false])
 | _=>none
def qLf:Ka [.rcd 39,.rcd 61]→Option (Ka [.rcd 39,.rcd 53]):=hide fun a=>(tree zIA qNT qNU 58 [.rcd 39,.rcd 61] [.rcd 39,.rcd 53] a).val
def qDp(s:Se)(x:Ip):Bool:=(qLf (s,x,())).isSome
def qBV(s:Se)(x:Ip):Se×Ou×Unit:=(qLf (s,x,())).getD ((dSe,dOu,()):Se×Ou×Unit)
def qSZ:TB:=fzR (con [.rcd 39,.rcd 61] [.rcd 39,.rcd 53] (fun a=>qDp a.1 a.2.1) (fun a=>qBV a.1 a.2.1) rfl)
theorem zEn:aM 58 qSZ:=dW zEm (L:=qNT) (J:=qNU) (ka:=[.rcd 39,.rcd 61]) (kr:=[.rcd 39,.rcd 53]) (by kernel_rfl) rfl rfl ((dSe,dOu,()):Se×Ou×Unit) (u:=qLf) rfl
def zJM:Con aC.T:=oW [(58,qSZ)] AU9
theorem qXZ:iL Tryz.prog zJM:=fT (aA zEn (fH)) zEl
def zEo:Hd aC.T:=hdT aC Tryz.prog zJM (fun _=>false) 1000 5
theorem zAs:bJ Tryz.prog zEo:=bW mixed hno qXZ _ _ _
def qNV(id:Nat)(st:St aC.T):Option (List Ld):=match id with
 | 31=>some (bK st 4 [.rcd 39]++bK st 5 [.rcd 53]++bK st 2 [.rcd 39])
 | _=>none
def qLg:Ka [.rcd 39,.rcd 61]→Option (Ka [.rcd 39,.rcd 53]):=hide fun a=>(tree zEo noL qNV 21 [.rcd 39,.rcd 61] [.rcd 39,.rcd 53] a).val
def zY(s:Se)(x:Ip):Bool:=(qLg (s,x,())).isSome
def zZ(s:Se)(x:Ip):Se×Ou×Unit:=(qLg (s,x,())).getD ((dSe,dOu,()):Se×Ou×Unit)
def qTa:TB:=fzR (con [.rcd 39,.rcd 61] [.rcd 39,.rcd 53] (fun a=>zY a.1 a.2.1) (fun a=>zZ a.1 a.2.1) rfl)
theorem zEp:aM 21 qTa:=dW zAs (L:=noL) (J:=qNV) (ka:=[.rcd 39,.rcd 61]) (kr:=[.rcd 39,.rcd 53]) (by kernel_rfl) rfl rfl ((dSe,dOu,()):Se×Ou×Unit) (u:=qLg) rfl
def zJN:Con aC.T:=oW [(21,qTa)] zJM
theorem qYa:iL Tryz.prog zJN:=fT (aA zEp (fH)) qXZ
def qBW:Hd aC.T:=hdT aC Tryz.prog zJN (fun _=>false) 1000 5
theorem qX:bJ Tryz.prog qBW:=bW mixed hno qYa _ _ _
end Go.Proofs.YtehpnjmgjmkjaaaGreatDoor
