/- Part of the proof: texts Aa. No conditions. -/
import Derived.Test.YtlmkakccmpncjaaGreatDoorRf
import Derived.Test.YtlmkakccmpncjaaGreatDoorVg
set_option linter.all false
noncomputable section
namespace Go.Proofs.YtlmkakccmpncjaaGreatDoor
open Go Go.W Go.Proofs
set_option maxRecDepth 100000
def oO(l:List (Nat×TB))(K:Con aC.T):Con aC.T:=fun f=>match bV l f with | some S=>some S | none=>K f
theorem fJ{l:List (Nat×TB)}{K:Con aC.T}(h:iH Tryz.prog (fun g=>bV l g))(hK:iH Tryz.prog K):iH Tryz.prog (oO l K):=by
 intro f S hS
 unfold oO at hS
 split at hS
 ·rename_i S1 h1;cases hS;exact h f _ h1
 ·exact hK f S hS
def fzR(S:TB):TB:=fun args h=>(kS aC args h).bind fun q=>S q.1 q.2
theorem nV{f:FuncId}{S:TB}(hS:aJ f S):aJ f (fzR S):=by
 intro args h Q hq
 simp only[fzR,Out.cO] at hq
 obtain⟨q,h1,h2⟩:=(Out.fF _ _).1 hq
 obtain⟨hnx,hfz⟩:=qAH h1
 obtain⟨ht,hc⟩:=hS q.1 q.2 Q h2
 refine⟨ht,fun N F φ w cargs hfr hH hl=>?_⟩
 obtain⟨N',F',φ',hl',hH',hG⟩:=hfz N F φ w cargs hH hl
 refine(hc N' F' φ' w cargs (fun r hr=>qAB (hfr r hr) hnx hG.names) hH' hl').mono (fun e w' he=>?_)
 obtain⟨cv,he,v,h',N2,F2,φ2,hq',hv,hH2,hG2⟩:=he
 exact⟨cv,he,v,h',N2,F2,φ2,hq',hv,hH2,hG.trans hG2⟩
theorem qYa{hd:Hd aC.T}(hHd:bI Tryz.prog hd){L J:Nat→St aC.T→Option (List Ld)}{f:Nat}(ht:(match Tryz.prog.funcs[f]? with | some fn=>!fn.body.isNone | none=>false)=true){ka kr:List Kd}(hkr:kr.all dA=true)(d:Ka kr){u:Ka ka→Option (Ka kr)}
  (hu:u=hide fun a=>(tree hd L J f ka kr a).val):yN Tryz.prog f (qBJ aC ka kr (fun a=>(u a).isSome) (fun a=>(u a).getD d)):=by
 obtain⟨fn,hfn⟩:∃fn,Tryz.prog.funcs[f]? = some fn:=by
  split at ht
  ·rename_i fn h;exact⟨fn,h⟩
  ·cases ht
 refine qGV (fuel:=1000) (L:=L) (J:=J) mixed hHd hfn (there f ht) hkr fun a ha=>?_
 have: (tree hd L J f ka kr a).G ((u a).getD d):=by
  rw[hu,qAI] at ha ⊢
  exact DT.qQR ha
 unfold tree at this
 rw[hfn] at this
 exact this
theorem qP5{hd:Hd aC.T}(hHd:bI Tryz.prog hd){L J:Nat→St aC.T→Option (List Ld)}{f:Nat}(ht:(match Tryz.prog.funcs[f]? with | some fn=>!fn.body.isNone | none=>false)=true){ka kr:List Kd}(hk:ka.all dA=true)(hkr:kr.all dA=true)(d:Ka kr){u:Ka ka→Option (Ka kr)}
  (hu:u=hide fun a=>(tree hd L J f ka kr a).val):aJ f (fzR (con ka kr (fun a=>(u a).isSome) (fun a=>(u a).getD d) hk)) :=
 nV (Spec.nT (qYa hHd ht hkr d hu) (qFv ka kr _ _ hk) fun _=>cz _)
theorem zJ1{hd:Hd aC.T}(hHd:bI Tryz.prog hd){L J:Nat→St aC.T→Option (List Ld)}{f:Nat}(ht:(match Tryz.prog.funcs[f]? with | some fn=>!fn.body.isNone | none=>false)=true){ka kr:List Kd}(hk:ka.all dA=true)(hkr:kr.all dA=true)(d:Ka kr){u:Ka ka→Option (Ka kr)}
  (hu:u=hide fun a=>(tree hd L J f ka kr a).val) (hfl:∀a:Ka ka,qDY (encR aC kr ((u a).getD d))=true):aJ f (eD aC ka kr (fun a=>(u a).isSome) (fun a=>(u a).getD d)) :=
 qX9 (qYa hHd ht hkr d hu) hk hfl
def uA(hd:Hd aC.T)(L J:Nat→St aC.T→Option (List Ld))(f:Nat)(ka kr:List Kd):Ka ka→Option (Ka kr):=hide fun a=>(tree hd L J f ka kr a).val
theorem rA{hd:Hd aC.T}(hHd:bI Tryz.prog hd){L J:Nat→St aC.T→Option (List Ld)}{f:Nat}(ht:(match Tryz.prog.funcs[f]? with | some fn=>!fn.body.isNone | none=>false)=true){ka kr:List Kd}(hk:ka.all dA=true)(hkr:kr.all dA=true){d:Ka kr}:aJ f (fzR (con ka kr (fun a=>(uA hd L J f ka kr a).isSome) (fun a=>(uA hd L J f ka kr a).getD d) hk)):=qP5 hHd ht hk hkr d rfl
theorem rAb{hd:Hd aC.T}(hHd:bI Tryz.prog hd){L J:Nat→St aC.T→Option (List Ld)}{f:Nat}(ht:(match Tryz.prog.funcs[f]? with | some fn=>!fn.body.isNone | none=>false)=true){ka kr:List Kd}(hk:ka.all dA=true)(hkr:kr.all dA=true){d:Ka kr}(hfl:∀a:Ka ka,qDY (encR aC kr ((uA hd L J f ka kr a).getD d))=true):aJ f (eD aC ka kr (fun a=>(uA hd L J f ka kr a).isSome) (fun a=>(uA hd L J f ka kr a).getD d)):=zJ1 hHd ht hk hkr d rfl hfl
theorem bP{α:Type}{t u:DT α}{w:Option α}{d r:α}(hw:w=t.val)(hv:t.G r=u.G r)(h:u.G r):w.isSome=true∧w.getD d=r:=by
 have e:=DT.qUE (Eq.mpr hv h)
 rw[hw,e]
 exact⟨rfl,rfl⟩
theorem qVq{f:Nat}(ht:(match Tryz.prog.funcs[f]? with | some fn=>!fn.body.isNone | none=>false)=true){ka kr:List Kd}(hk:ka.all dA=true)(hkr:kr.all dA=true)(m:Ka ka→Ka kr):aJ f (fzR (con ka kr (fun _=>false) m hk)):=nV (row_of eF (L:=noL) (J:=noL) ht hk hkr fun a h=>by cases h)
def AU0:Con aC.T:=fzC aC fun f=>bV [(113,qDc),(375,qDd),(130,vL),(311,qHe),(387,qY),(138,zS),(378,qDf),(120,zT),(10,wH),(127,zU),(133,qZ),(114,qHi),(122,qDg),(383,zV),(131,rC),(264,zW),(382,vN),(115,qHj),(125,oM),(134,zX),(325,qHk),(128,oN),(277,qHl),(139,wI),(209,qKq),(379,qF8),(121,wJ),(206,qBT),(123,qDi),(119,qFA),(371,qDj),(312,qID),(116,qIE),(132,qIF),(315,qIG),(129,qIH),(117,qFB),(205,qII),(51,qIJ),(136,qFC),(124,qDl),(47,qFD),(40,xS),(208,qFE),(111,qP3),(42,qE3),(376,zEX),(458,zEZ),(459,zFa),(521,qXZ)] f
theorem qVr:iH Tryz.prog AU0:=qOW (aA qI8 (aA qI9 (aA qDe (aA qPg (aA qAK (aA qF1 (aA qIA (aA qF2 (aA qBN (aA qF3 (aA qAL (aA qPj (aA qIB (aA qF4 (aA qAP (aA qF5 (aA qDh (aA qPk (aA xO (aA qF6 (aA qPl (aA xP (aA qPm (aA qBS (aA qPn (aA qIC (aA qAQ (aA qF9 (aA qHp (aA qKw (aA qHq (aA qPv (aA qPw (aA qPx (aA qPy (aA qPz (aA qKx (aA qP0 (aA qP1 (aA qKy (aA qHs (aA qKz (aA qBW (aA qK0 (aA qXY (aA qK3 (aA zLz (aA zMH (aA zMI (aA zJ0 (eX)))))))))))))))))))))))))))))))))))))))))))))))))))
def wM:Hd aC.T:=hdT aC Tryz.prog AU0 (fun _=>false) 1000 5
theorem iW:bI Tryz.prog wM:=bU mixed hno qVr _ _ _
def qR9:=uA wM noL noL 418 [.rcd 40,.int .i64] [.rcd 40,.int .i64]
def qAb(v:Vec)(bp:Int):Bool:=(qR9 (v,bp,())).isSome
def qBX(v:Vec)(bp:Int):Vec×Int×Unit:=(qR9 (v,bp,())).getD (gQ,(0:Int),())
def qRA:TB:=eD aC [.rcd 40,.int .i64] [.rcd 40,.int .i64] (fun a=>qAb a.1 a.2.1) (fun a=>qBX a.1 a.2.1)
theorem zFb:aJ 418 qRA:=rAb iW (by kernel_rfl) rfl rfl fun _=>rfl
def zAM:=ljT [(3,fun st=>bK st 2 [.rcd 461]),(5,fun st=>bK st 3 [.rcd 461])]
def qRB:=uA wM noL zAM 501 [.rcd 461,.rcd 461] [.int .i64]
def qAc(x:Fr)(y:Fr):Bool:=(qRB (x,y,())).isSome
def qBY(x:Fr)(y:Fr):Int×Unit:=(qRB (x,y,())).getD ((0:Int),())
def qRC:TB:=eD aC [.rcd 461,.rcd 461] [.int .i64] (fun a=>qAc a.1 a.2.1) (fun a=>qBY a.1 a.2.1)
theorem zFc:aJ 501 qRC:=rAb iW (by kernel_rfl) rfl rfl fun _=>rfl
def qVs:=ljT [(3,fun st=>[si 6])]
def qMZ:=uA wM qVs noL 384 [.str,.str] [.bool]
def wN(leaf:B)(path:B):Bool:=(qMZ (leaf,path,())).isSome
def qAd(leaf:B)(path:B):Bool×Unit:=(qMZ (leaf,path,())).getD (false,())
def qNa:TB:=eD aC [.str,.str] [.bool] (fun a=>wN a.1 a.2.1) (fun a=>qAd a.1 a.2.1)
theorem zAN:aJ 384 qNa:=rAb iW (by kernel_rfl) rfl rfl fun _=>rfl
def qVt:=ljT [(8,fun st=>[si 11])]
def qVu:=ljT [(7,fun st=>bK st 6 [.rcd 43]),(10,fun st=>[si 11]),(11,fun st=>[aS st 12 46 false]),(12,fun st=>[aS st 12 46 false])]
def qNb:=uA wM qVt qVu 317 [.rcd 37,.rcd 53,.rcd 43,.rcd 131] [.rcd 37,.rcd 46]
def rF(s:Se)(n:Nd)(a:Ap)(x:Ak):Bool:=(qNb (s,n,a,x,())).isSome
def qAe(s:Se)(n:Nd)(a:Ap)(x:Ak):Se×Ct×Unit:=(qNb (s,n,a,x,())).getD (dSe,dCt,())
def qNc:TB:=fzR (con [.rcd 37,.rcd 53,.rcd 43,.rcd 131] [.rcd 37,.rcd 46] (fun a=>rF a.1 a.2.1 a.2.2.1 a.2.2.2.1) (fun a=>qAe a.1 a.2.1 a.2.2.1 a.2.2.2.1) rfl)
theorem zAO:aJ 317 qNc:=rA iW (by kernel_rfl) rfl rfl
def zAP:=ljT [(3,fun st=>[si 8]++qMF st 7 46)]
def zAQ:=ljT [(2,fun st=>[aS st 7 46 false])]
def qRD:=uA wM zAP zAQ 212 [.rcd 37,.int .i64,.int .i64] [.rcd 37]
def qAf(s:Se)(id:Int)(t:Int):Bool:=(qRD (s,id,t,())).isSome
def qBZ(s:Se)(id:Int)(t:Int):Se×Unit:=(qRD (s,id,t,())).getD (dSe,())
def qRE:TB:=fzR (con [.rcd 37,.int .i64,.int .i64] [.rcd 37] (fun a=>qAf a.1 a.2.1 a.2.2.1) (fun a=>qBZ a.1 a.2.1 a.2.2.1) rfl)
theorem zFd:aJ 212 qRE:=rA iW (by kernel_rfl) rfl rfl
def qRF:=ljT [(3,fun st=>[si 5,si 6])]
def qRG:=ljT [(4,fun st=>[si 5])]
def qK4:=uA wM qRF qRG 270 [.rcd 37,.rcd 46] [.int .i64]
def xU(s:Se)(c:Ct):Bool:=(qK4 (s,c,())).isSome
def qAS(s:Se)(c:Ct):Int×Unit:=(qK4 (s,c,())).getD ((0:Int),())
def qK5:TB:=eD aC [.rcd 37,.rcd 46] [.int .i64] (fun a=>xU a.1 a.2.1) (fun a=>qAS a.1 a.2.1)
theorem qVv:aJ 270 qK5:=rAb iW (by kernel_rfl) rfl rfl fun _=>rfl
def qVw:=ljT [(2,fun st=>[aS st 1 131 false,si 8])]
def qVx:=ljT [(3,fun st=>[aS st 1 131 false])]
def qNd:=uA wM qVw qVx 126 [.rcd 37,.dat 131,.dat 131] [.dat 131,.int .i64]
def qAT(s:Se)(l:List Ak)(more:List Ak):Bool:=(qNd (s,l,more,())).isSome
def qDm(s:Se)(l:List Ak)(more:List Ak):(List Ak)×Int×Unit:=(qNd (s,l,more,())).getD ([],(0:Int),())
def qNe:TB:=fzR (con [.rcd 37,.dat 131,.dat 131] [.dat 131,.int .i64] (fun a=>qAT a.1 a.2.1 a.2.2.1) (fun a=>qDm a.1 a.2.1 a.2.2.1) rfl)
theorem zAR:aJ 126 qNe:=rA iW (by kernel_rfl) rfl rfl
def qVy(ok:Ka [.int .i64]→Bool)(m:Ka [.int .i64]→Ka [.str]):Con aC.T:=oO [(49,fzR (con [.int .i64] [.str] ok m rfl))] AU0
def xV(ok:Ka [.int .i64]→Bool)(m:Ka [.int .i64]→Ka [.str]):Hd aC.T:=hdT aC Tryz.prog (qVy ok m) (fun _=>false) 1000 5
def gJ:Nat→Ka [.int .i64]→Option (Ka [.str])
 | 0=>fun _=>none
 | n+1=>hide fun a=>(tree (xV (fun a=>(gJ n a).isSome) fun a=>(gJ n a).getD (([],()):B×Unit)) noL noL 49 [.int .i64] [.str] a).val
theorem qHZ:∀n,aJ 49 (fzR (con [.int .i64] [.str] (fun a=>(gJ n a).isSome) (fun a=>(gJ n a).getD (([],()):B×Unit)) rfl))
 | 0=>qVq (by kernel_rfl) rfl rfl _
 | n+1=>qP5 (hd:=xV (fun a=>(gJ n a).isSome) fun a=>(gJ n a).getD (([],()):B×Unit)) (bU mixed hno (fJ (aA (qHZ n) eX) qVr) _ _ _) (L:=noL) (J:=noL) (ka:=[.int .i64]) (kr:=[.str]) (by kernel_rfl) rfl rfl (([],()):B×Unit) (u:=gJ (n+1)) rfl
theorem qVz(n:Nat)(a:Ka [.int .i64]):gJ (n+1) a=(tree (xV (fun a=>(gJ n a).isSome) fun a=>(gJ n a).getD (([],()):B×Unit)) noL noL 49 [.int .i64] [.str] a).val:=congrFun (qAI _) a
def uY(fu:Nat)(n:Int):Bool:=(gJ fu (n,())).isSome
def xW(fu:Nat)(n:Int):B×Unit:=(gJ fu (n,())).getD (([],()):B×Unit)
def sZ(n:Int):Bool:=uY 20 n
def nW(n:Int):B×Unit:=xW 20 n
def qK6:TB:=fzR (con [.int .i64] [.str] (fun a=>sZ a.1) (fun a=>nW a.1) rfl)
theorem qV0:aJ 49 qK6:=qHZ 20
def zJ2:=ljT [(4,fun st=>[aS st 5 9 false,si 6,si 7])]
def zJ3:=ljT [(5,fun st=>[aS st 5 9 false,si 6]),(8,fun st=>[aS st 5 9 false]),(9,fun st=>[aS st 5 9 false,si 6]),(11,fun st=>[aS st 5 9 false])]
def zFe:=uA wM zJ2 zJ3 199 [.str,.int .u8] [.dat 9]
def qFG(s:B)(c:Int):Bool:=(zFe (s,c,())).isSome
def qK7(s:B)(c:Int):(List B)×Unit:=(zFe (s,c,())).getD ([],())
def zFf:TB:=fzR (con [.str,.int .u8] [.dat 9] (fun a=>qFG a.1 a.2.1) (fun a=>qK7 a.1 a.2.1) rfl)
theorem zMJ:aJ 199 zFf:=rA iW (by kernel_rfl) rfl rfl
def qV1:=ljT [(5,fun st=>[si 4,si 5])]
def qV2:=ljT [(6,fun st=>[si 4])]
def qNf:=uA wM qV1 qV2 260 [.str] [.int .i64,.bool]
def rG(s:B):Bool:=(qNf (s,())).isSome
def lW(s:B):Int×Bool×Unit:=(qNf (s,())).getD ((0:Int),false,())
def qNg:TB:=eD aC [.str] [.int .i64,.bool] (fun a=>rG a.1) (fun a=>lW a.1)
theorem zAS:aJ 260 qNg:=rAb iW (by kernel_rfl) rfl rfl fun _=>rfl
def zFg:=ljT [(4,fun st=>[si 3])]
def qYb:=uA wM zFg noL 262 [.str] [.bool]
def qAg(s:B):Bool:=(qYb (s,())).isSome
def qDn(s:B):Bool×Unit:=(qYb (s,())).getD (false,())
def qYc:TB:=eD aC [.str] [.bool] (fun a=>qAg a.1) (fun a=>qDn a.1)
theorem zJ4:aJ 262 qYc:=rAb iW (by kernel_rfl) rfl rfl fun _=>rfl
def zFh:=ljT [(2,fun st=>[si 3]),(6,fun st=>[si 5]),(10,fun st=>[si 6,si 7])]
def zFi:=ljT [(14,fun st=>[si 6])]
def qYd:=uA wM zFh zFi 204 [.rcd 30] [.bool]
def qFH(c:Cf):Bool:=(qYd (c,())).isSome
def qIK(c:Cf):Bool×Unit:=(qYd (c,())).getD (false,())
def qYe:TB:=eD aC [.rcd 30] [.bool] (fun a=>qFH a.1) (fun a=>qIK a.1)
theorem zJ5:aJ 204 qYe:=rAb iW (by kernel_rfl) rfl rfl fun _=>rfl
def zFj:=ljT [(3,fun st=>[si 6]++qMF st 5 131)]
def zFk:=ljT [(2,fun st=>[aS st 5 131 false])]
def qYf:=uA wM zFj zFk 381 [.dat 131,.int .i64] [.dat 131]
def qFI(l:List Ak)(prio:Int):Bool:=(qYf (l,prio,())).isSome
def qIL(l:List Ak)(prio:Int):(List Ak)×Unit:=(qYf (l,prio,())).getD ([],())
def qYg:TB:=fzR (con [.dat 131,.int .i64] [.dat 131] (fun a=>qFI a.1 a.2.1) (fun a=>qIL a.1 a.2.1) rfl)
theorem zJ6:aJ 381 qYg:=rA iW (by kernel_rfl) rfl rfl
def qRH:=uA wM noL noL 110 [.rcd 43] [.bool]
def lX(a:Ap):Bool:=(qRH (a,())).isSome
def pM(a:Ap):Bool×Unit:=(qRH (a,())).getD (false,())
def qRI:TB:=eD aC [.rcd 43] [.bool] (fun a=>lX a.1) (fun a=>pM a.1)
theorem zFl:aJ 110 qRI:=rAb iW (by kernel_rfl) rfl rfl fun _=>rfl
def qRJ:=uA wM noL noL 420 [.int .i64] [.int .i64]
def lY(n:Int):Bool:=(qRJ (n,())).isSome
def lK(n:Int):Int×Unit:=(qRJ (n,())).getD ((0:Int),())
def qRK:TB:=eD aC [.int .i64] [.int .i64] (fun a=>lY a.1) (fun a=>lK a.1)
theorem zFm:aJ 420 qRK:=rAb iW (by kernel_rfl) rfl rfl fun _=>rfl
def AU1:Con aC.T:=oO [(418,qRA),(501,qRC),(384,qNa),(317,qNc),(212,qRE),(270,qK5),(126,qNe),(49,qK6),(199,zFf),(260,qNg),(262,qYc),(204,qYe),(381,qYg),(110,qRI),(420,qRK)] AU0
theorem zFn:iH Tryz.prog AU1:=fJ (aA zFb (aA zFc (aA zAN (aA zAO (aA zFd (aA qVv (aA zAR (aA qV0 (aA zMJ (aA zAS (aA zJ4 (aA zJ5 (aA zJ6 (aA zFl (aA zFm (eX)))))))))))))))) qVr
def tC:Hd aC.T:=hdT aC Tryz.prog AU1 (fun _=>false) 1000 5
theorem gT:bI Tryz.prog tC:=bU mixed hno zFn _ _ _
def zAT:=ljT [(3,fun st=>[aS st 5 43 false,si 6]),(8,fun st=>[si 8]),(15,fun st=>[aS st 10 3 false,si 11])]
def zAU:=ljT [(4,fun st=>[aS st 5 43 false]),(10,fun st=>[si 8]),(11,fun st=>[aS st 9 43 false]),(12,fun st=>[aS st 9 43 false]),(13,fun st=>[aS st 5 43 false])]
def qRL:=uA tC zAT zAU 319 [.rcd 37,.str] [.dat 3]
def qDo(s:Se)(queue:B):Bool:=(qRL (s,queue,())).isSome
def qCa(s:Se)(queue:B):(List Int)×Unit:=(qRL (s,queue,())).getD ([],())
def qRM:TB:=fzR (con [.rcd 37,.str] [.dat 3] (fun a=>qDo a.1 a.2.1) (fun a=>qCa a.1 a.2.1) rfl)
theorem zFo:aJ 319 qRM:=rA gT (by kernel_rfl) rfl rfl
def qV3:=ljT [(5,fun st=>[aS st 11 3 false,si 10,si 12]),(11,fun st=>[si 10,si 14]++qMF st 11 3)]
def qV4:=ljT [(9,fun st=>[aS st 11 3 false]),(10,fun st=>[aS st 11 3 false,si 10])]
def qNh:=uA tC qV3 qV4 385 [.int .i64,.dat 3,.dat 3,.dat 3] [.dat 3]
def qAU(total:Int)(least:List Int)(want:List Int)(most:List Int):Bool:=(qNh (total,least,want,most,())).isSome
def qDp(total:Int)(least:List Int)(want:List Int)(most:List Int):(List Int)×Unit:=(qNh (total,least,want,most,())).getD ([],())
def qNi:TB:=fzR (con [.int .i64,.dat 3,.dat 3,.dat 3] [.dat 3] (fun a=>qAU a.1 a.2.1 a.2.2.1 a.2.2.2.1) (fun a=>qDp a.1 a.2.1 a.2.2.1 a.2.2.2.1) rfl)
theorem zAV:aJ 385 qNi:=rA gT (by kernel_rfl) rfl rfl
def qYh:=uA tC noL noL 502 [.rcd 40,.rcd 40] [.rcd 461]
def qCb(a:Vec)(p:Vec):Bool:=(qYh (a,p,())).isSome
def qAV(a:Vec)(p:Vec):Fr×Unit:=(qYh (a,p,())).getD (dFr,())
def qYi:TB:=eD aC [.rcd 40,.rcd 40] [.rcd 461] (fun a=>qCb a.1 a.2.1) (fun a=>qAV a.1 a.2.1)
theorem zJ7:aJ 502 qYi:=rAb gT (by kernel_rfl) rfl rfl fun _=>rfl
def qP6:=ljT [(3,fun st=>[si 8]++bK st 7 [.rcd 40])]
def qP7:=ljT [(4,fun st=>bK st 7 [.rcd 40])]
def qIa:=uA tC qP6 qP7 324 [.rcd 37,.str,.int .i64] [.rcd 40]
def pO(s:Se)(path:B)(label:Int):Bool:=(qIa (s,path,label,())).isSome
def tF(s:Se)(path:B)(label:Int):Vec×Unit:=(qIa (s,path,label,())).getD (gQ,())
def qIb:TB:=eD aC [.rcd 37,.str,.int .i64] [.rcd 40] (fun a=>pO a.1 a.2.1 a.2.2.1) (fun a=>tF a.1 a.2.1 a.2.2.1)
theorem qRN:aJ 324 qIb:=rAb gT (by kernel_rfl) rfl rfl fun _=>rfl
def zAW:=ljT [(3,fun st=>[si 12]++bK st 11 [.rcd 40])]
def zAX:=ljT [(4,fun st=>bK st 11 [.rcd 40])]
def qRO:=uA tC zAW zAX 321 [.rcd 37,.str,.int .i64,.bool,.int .i64] [.rcd 40]
def gF(s:Se)(path:B)(label:Int)(all:Bool)(user:Int):Bool:=(qRO (s,path,label,all,user,())).isSome
def iC(s:Se)(path:B)(label:Int)(all:Bool)(user:Int):Vec×Unit:=(qRO (s,path,label,all,user,())).getD (gQ,())
def qRP:TB:=eD aC [.rcd 37,.str,.int .i64,.bool,.int .i64] [.rcd 40] (fun a=>gF a.1 a.2.1 a.2.2.1 a.2.2.2.1 a.2.2.2.2.1) (fun a=>iC a.1 a.2.1 a.2.2.1 a.2.2.2.1 a.2.2.2.2.1)
theorem zFp:aJ 321 qRP:=rAb gT (by kernel_rfl) rfl rfl fun _=>rfl
def zAY:=ljT [(4,fun st=>[si 11])]
def qRQ:=uA tC zAY noL 214 [.dat 55,.rcd 40,.rcd 55,.int .i64,.int .i64] [.bool]
def qDq(l:List Pn)(total:Vec)(p:Pn)(t:Int)(long:Int):Bool:=(qRQ (l,total,p,t,long,())).isSome
def qFJ(l:List Pn)(total:Vec)(p:Pn)(t:Int)(long:Int):Bool×Unit:=(qRQ (l,total,p,t,long,())).getD (false,())
def qRR:TB:=eD aC [.dat 55,.rcd 40,.rcd 55,.int .i64,.int .i64] [.bool] (fun a=>qDq a.1 a.2.1 a.2.2.1 a.2.2.2.1 a.2.2.2.2.1) (fun a=>qFJ a.1 a.2.1 a.2.2.1 a.2.2.2.1 a.2.2.2.2.1)
theorem zFq:aJ 214 qRR:=rAb gT (by kernel_rfl) rfl rfl fun _=>rfl
def qRS:=ljT [(3,fun st=>[si 9,si 10])]
def qRT:=ljT [(4,fun st=>[si 9])]
def qK8:=uA tC qRS qRT 274 [.rcd 37,.str,.int .i64,.dat 3] [.int .i64]
def oP(s:Se)(path:B)(label:Int)(l:List Int):Bool:=(qK8 (s,path,label,l,())).isSome
def nX(s:Se)(path:B)(label:Int)(l:List Int):Int×Unit:=(qK8 (s,path,label,l,())).getD ((0:Int),())
def qK9:TB:=eD aC [.rcd 37,.str,.int .i64,.dat 3] [.int .i64] (fun a=>oP a.1 a.2.1 a.2.2.1 a.2.2.2.1) (fun a=>nX a.1 a.2.1 a.2.2.1 a.2.2.2.1)
theorem qV5:aJ 274 qK9:=rAb gT (by kernel_rfl) rfl rfl fun _=>rfl
def qRU:=ljT [(3,fun st=>[.slot 11 (.bool),si 12]++bK st 10 [.rcd 46])]
def qRV:=ljT [(4,fun st=>[.slot 11 (.bool)]++bK st 10 [.rcd 46])]
def qKA:=uA tC qRU qRV 275 [.rcd 37,.str,.int .i64,.dat 3] [.rcd 46,.bool]
def tH(s:Se)(path:B)(label:Int)(l:List Int):Bool:=(qKA (s,path,label,l,())).isSome
def rH(s:Se)(path:B)(label:Int)(l:List Int):Ct×Bool×Unit:=(qKA (s,path,label,l,())).getD (dCt,false,())
def qKB:TB:=eD aC [.rcd 37,.str,.int .i64,.dat 3] [.rcd 46,.bool] (fun a=>tH a.1 a.2.1 a.2.2.1 a.2.2.2.1) (fun a=>rH a.1 a.2.1 a.2.2.1 a.2.2.2.1)
theorem qV6:aJ 275 qKB:=rAb gT (by kernel_rfl) rfl rfl fun _=>rfl
def qRW:=uA tC noL noL 44 [.rcd 37,.int .i64,.int .i64] [.rcd 37,.rcd 49]
def qAh(s:Se)(id:Int)(state:Int):Bool:=(qRW (s,id,state,())).isSome
def qAi(s:Se)(id:Int)(state:Int):Se×Ou×Unit:=(qRW (s,id,state,())).getD (dSe,dOu,())
def qRX:TB:=fzR (con [.rcd 37,.int .i64,.int .i64] [.rcd 37,.rcd 49] (fun a=>qAh a.1 a.2.1 a.2.2.1) (fun a=>qAi a.1 a.2.1 a.2.2.1) rfl)
theorem zFr:aJ 44 qRX:=rA gT (by kernel_rfl) rfl rfl
def qRY:=ljT [(16,fun st=>[si 10]++bK st 2 [.rcd 37]++bK st 6 [.rcd 43])]
def qRZ:=ljT [(12,fun st=>bK st 4 [.rcd 37]++bK st 5 [.rcd 49]),(17,fun st=>bK st 2 [.rcd 37]++bK st 6 [.rcd 43]),(22,fun st=>bK st 2 [.rcd 37]++bK st 6 [.rcd 43])]
def qKC:=uA tC qRY qRZ 43 [.rcd 37,.rcd 57] [.rcd 37,.rcd 49]
def xX(s:Se)(x:Ip):Bool:=(qKC (s,x,())).isSome
def wO(s:Se)(x:Ip):Se×Ou×Unit:=(qKC (s,x,())).getD (dSe,dOu,())
def qKD:TB:=fzR (con [.rcd 37,.rcd 57] [.rcd 37,.rcd 49] (fun a=>xX a.1 a.2.1) (fun a=>wO a.1 a.2.1) rfl)
theorem qV7:aJ 43 qKD:=rA gT (by kernel_rfl) rfl rfl
def zFs:=ljT [(3,fun st=>[.slot 3 (.str),si 4]),(8,fun st=>[.slot 3 (.str),si 5]),(13,fun st=>[.slot 3 (.str),si 7])]
def zFt:=ljT [(6,fun st=>[.slot 3 (.str)]),(9,fun st=>[.slot 3 (.str)]),(16,fun st=>[.slot 3 (.str)])]
def qYj:=uA tC zFs zFt 16 [.rcd 30] [.str]
def qCc(c:Cf):Bool:=(qYj (c,())).isSome
def qFK(c:Cf):B×Unit:=(qYj (c,())).getD ([],())
def qYk:TB:=eD aC [.rcd 30] [.str] (fun a=>qCc a.1) (fun a=>qFK a.1)
theorem zJ8:aJ 16 qYk:=rAb gT (by kernel_rfl) rfl rfl fun _=>rfl
def zAZ:=ljT [(2,fun st=>[si 4])]
def zBa:=ljT [(4,fun st=>[si 4])]
def qSa:=uA tC zAZ zBa 261 [.str] [.rcd 76,.bool]
def qDr(s:B):Bool:=(qSa (s,())).isSome
def qCd(s:B):Cp×Bool×Unit:=(qSa (s,())).getD (dCp,false,())
def qSb:TB:=eD aC [.str] [.rcd 76,.bool] (fun a=>qDr a.1) (fun a=>qCd a.1)
theorem zFu:aJ 261 qSb:=rAb gT (by kernel_rfl) rfl rfl fun _=>rfl
def zBb:=ljT [(4,fun st=>[aS st 3 9 false,si 5])]
def zBc:=ljT [(5,fun st=>[aS st 3 9 false])]
def qSc:=uA tC zBb zBc 200 [.str] [.dat 9]
def qDs(s:B):Bool:=(qSc (s,())).isSome
def qFL(s:B):(List B)×Unit:=(qSc (s,())).getD ([],())
def qSd:TB:=fzR (con [.str] [.dat 9] (fun a=>qDs a.1) (fun a=>qFL a.1) rfl)
theorem zFv:aJ 200 qSd:=rA gT (by kernel_rfl) rfl rfl
def qV8:=ljT [(3,fun st=>[si 3,si 4,si 5])]
def qV9:=ljT [(4,fun st=>[si 3,si 4])]
def qNj:=uA tC qV8 qV9 263 [.str] [.bool]
def qAW(s:B):Bool:=(qNj (s,())).isSome
def qDt(s:B):Bool×Unit:=(qNj (s,())).getD (false,())
def qNk:TB:=eD aC [.str] [.bool] (fun a=>qAW a.1) (fun a=>qDt a.1)
theorem zBd:aJ 263 qNk:=rAb gT (by kernel_rfl) rfl rfl fun _=>rfl
def qVA:=ljT [(6,fun st=>[si 3]),(11,fun st=>[si 4]),(14,fun st=>[si 5])]
def qNl:=uA tC qVA noL 202 [.rcd 30] [.int .i64]
def wP(c:Cf):Bool:=(qNl (c,())).isSome
def qAj(c:Cf):Int×Unit:=(qNl (c,())).getD ((0:Int),())
def qNm:TB:=eD aC [.rcd 30] [.int .i64] (fun a=>wP a.1) (fun a=>qAj a.1)
theorem zBe:aJ 202 qNm:=rAb gT (by kernel_rfl) rfl rfl fun _=>rfl
def zFw:=ljT [(7,fun st=>[si 13]++bK st 11 [.rcd 40])]
def zFx:=ljT [(8,fun st=>bK st 11 [.rcd 40]),(13,fun st=>[si 16])]
def qYl:=uA tC zFw zFx 386 [.rcd 37,.str,.int .i64,.bool] [.rcd 40]
def lL(s:Se)(path:B)(label:Int)(least:Bool):Bool:=(qYl (s,path,label,least,())).isSome
def pQ(s:Se)(path:B)(label:Int)(least:Bool):Vec×Unit:=(qYl (s,path,label,least,())).getD (gQ,())
def qYm:TB:=eD aC [.rcd 37,.str,.int .i64,.bool] [.rcd 40] (fun a=>lL a.1 a.2.1 a.2.2.1 a.2.2.2.1) (fun a=>pQ a.1 a.2.1 a.2.2.1 a.2.2.2.1)
theorem zJ9:aJ 386 qYm:=rAb gT (by kernel_rfl) rfl rfl fun _=>rfl
def AU2:Con aC.T:=oO [(319,qRM),(385,qNi),(502,qYi),(324,qIb),(321,qRP),(214,qRR),(274,qK9),(275,qKB),(44,qRX),(43,qKD),(16,qYk),(261,qSb),(200,qSd),(263,qNk),(202,qNm),(386,qYm)] AU1
theorem zFy:iH Tryz.prog AU2:=fJ (aA zFo (aA zAV (aA zJ7 (aA qRN (aA zFp (aA zFq (aA qV5 (aA qV6 (aA zFr (aA qV7 (aA zJ8 (aA zFu (aA zFv (aA zBd (aA zBe (aA zJ9 (eX))))))))))))))))) zFn
def qSe:Hd aC.T:=hdT aC Tryz.prog AU2 (fun _=>false) 1000 5
theorem qFM:bI Tryz.prog qSe:=bU mixed hno zFy _ _ _
def zFz:=uA qSe noL noL 485 [.rcd 40,.rcd 40,.rcd 40,.rcd 40] [.int .i64]
def qIM(a:Vec)(p:Vec)(b:Vec)(q:Vec):Bool:=(zFz (a,p,b,q,())).isSome
def qP8(a:Vec)(p:Vec)(b:Vec)(q:Vec):Int×Unit:=(zFz (a,p,b,q,())).getD ((0:Int),())
def zF0:TB:=eD aC [.rcd 40,.rcd 40,.rcd 40,.rcd 40] [.int .i64] (fun a=>qIM a.1 a.2.1 a.2.2.1 a.2.2.2.1) (fun a=>qP8 a.1 a.2.1 a.2.2.1 a.2.2.2.1)
theorem zMK:aJ 485 zF0:=rAb qFM (by kernel_rfl) rfl rfl fun _=>rfl
def qVB:=ljT [(5,fun st=>[si 10,si 11])]
def qVC:=ljT [(6,fun st=>[si 10]),(10,fun st=>[si 12]),(12,fun st=>[si 10])]
def qNn:=uA qSe qVB qVC 137 [.dat 55,.rcd 40,.rcd 55,.int .i64] [.int .i64,.int .i64]
def qAX(l:List Pn)(total:Vec)(p:Pn)(long:Int):Bool:=(qNn (l,total,p,long,())).isSome
def qDu(l:List Pn)(total:Vec)(p:Pn)(long:Int):Int×Int×Unit:=(qNn (l,total,p,long,())).getD ((0:Int),(0:Int),())
def qNo:TB:=eD aC [.dat 55,.rcd 40,.rcd 55,.int .i64] [.int .i64,.int .i64] (fun a=>qAX a.1 a.2.1 a.2.2.1 a.2.2.2.1) (fun a=>qDu a.1 a.2.1 a.2.2.1 a.2.2.2.1)
theorem zBf:aJ 137 qNo:=rAb qFM (by kernel_rfl) rfl rfl fun _=>rfl
def zBg:=ljT [(6,fun st=>[.slot 7 (.bool),si 9]++bK st 8 [.str,.own (Nat.add st.hp.nx 50) 76 false,.int .i64])]
def qSf:=uA qSe zBg noL 201 [.dat 9,.int .i64] [.rcd 79,.bool]
def qAk(w:List B)(labels:Int):Bool:=(qSf (w,labels,())).isSome
def qFN(w:List B)(labels:Int):Qu×Bool×Unit:=(qSf (w,labels,())).getD (dQu,false,())
def qSg:TB:=fzR (con [.dat 9,.int .i64] [.rcd 79,.bool] (fun a=>qAk a.1 a.2.1) (fun a=>qFN a.1 a.2.1) rfl)
theorem zF1:aJ 201 qSg:=rA qFM (by kernel_rfl) rfl rfl
def zBh:=ljT [(12,fun st=>[si 8])]
def qSh:=uA qSe zBh noL 203 [.rcd 30,.int .i64] [.int .i64]
def qAl(c:Cf)(i:Int):Bool:=(qSh (c,i,())).isSome
def qCe(c:Cf)(i:Int):Int×Unit:=(qSh (c,i,())).getD ((0:Int),())
def qSi:TB:=eD aC [.rcd 30,.int .i64] [.int .i64] (fun a=>qAl a.1 a.2.1) (fun a=>qCe a.1 a.2.1)
theorem zF2:aJ 203 qSi:=rAb qFM (by kernel_rfl) rfl rfl fun _=>rfl
def AU3:Con aC.T:=oO [(485,zF0),(137,qNo),(201,qSg),(203,qSi)] AU2
theorem qVD:iH Tryz.prog AU3:=fJ (aA zMK (aA zBf (aA zF1 (aA zF2 (eX))))) zFy
def qFO:Hd aC.T:=hdT aC Tryz.prog AU3 (fun _=>false) 1000 5
theorem tJ:bI Tryz.prog qFO:=bU mixed hno qVD _ _ _
def zBi:=ljT [(3,fun st=>[si 10])]
def qSj:=uA qFO zBi noL 316 [.rcd 37,.str,.int .i64,.rcd 40] [.bool]
def qAm(s:Se)(path:B)(label:Int)(size:Vec):Bool:=(qSj (s,path,label,size,())).isSome
def qCf(s:Se)(path:B)(label:Int)(size:Vec):Bool×Unit:=(qSj (s,path,label,size,())).getD (false,())
def qSk:TB:=eD aC [.rcd 37,.str,.int .i64,.rcd 40] [.bool] (fun a=>qAm a.1 a.2.1 a.2.2.1 a.2.2.2.1) (fun a=>qCf a.1 a.2.1 a.2.2.1 a.2.2.2.1)
theorem zF3:aJ 316 qSk:=rAb tJ (by kernel_rfl) rfl rfl fun _=>rfl
def qNp:=uA qFO noL noL 460 [.rcd 37,.str,.str,.int .i64] [.bool]
def qAY(s:Se)(a:B)(b:B)(label:Int):Bool:=(qNp (s,a,b,label,())).isSome
def qDv(s:Se)(a:B)(b:B)(label:Int):Bool×Unit:=(qNp (s,a,b,label,())).getD (false,())
def qNq:TB:=eD aC [.rcd 37,.str,.str,.int .i64] [.bool] (fun a=>qAY a.1 a.2.1 a.2.2.1 a.2.2.2.1) (fun a=>qDv a.1 a.2.1 a.2.2.1 a.2.2.2.1)
theorem zBj:aJ 460 qNq:=rAb tJ (by kernel_rfl) rfl rfl fun _=>rfl
def qYn:=uA qFO noL noL 313 [.rcd 37,.str,.rcd 131] [.bool]
def qCg(s:Se)(leaf:B)(a:Ak):Bool:=(qYn (s,leaf,a,())).isSome
def qFP(s:Se)(leaf:B)(a:Ak):Bool×Unit:=(qYn (s,leaf,a,())).getD (false,())
def qYo:TB:=eD aC [.rcd 37,.str,.rcd 131] [.bool] (fun a=>qCg a.1 a.2.1 a.2.2.1) (fun a=>qFP a.1 a.2.1 a.2.2.1)
theorem zJA:aJ 313 qYo:=rAb tJ (by kernel_rfl) rfl rfl fun _=>rfl
def zF4:=ljT [(5,fun st=>[si 9,si 10])]
def zF5:=ljT [(6,fun st=>[si 9]),(11,fun st=>[si 9]),(19,fun st=>[aS st 13 55 false]),(20,fun st=>[aS st 13 55 false])]
def qYp:=uA qFO zF4 zF5 46 [.rcd 37,.rcd 55,.int .i64] [.rcd 37,.int .i64,.int .i64]
def qFQ(s:Se)(p:Pn)(long:Int):Bool:=(qYp (s,p,long,())).isSome
def qIN(s:Se)(p:Pn)(long:Int):Se×Int×Int×Unit:=(qYp (s,p,long,())).getD (dSe,(0:Int),(0:Int),())
def qYq:TB:=fzR (con [.rcd 37,.rcd 55,.int .i64] [.rcd 37,.int .i64,.int .i64] (fun a=>qFQ a.1 a.2.1 a.2.2.1) (fun a=>qIN a.1 a.2.1 a.2.2.1) rfl)
theorem zJB:aJ 46 qYq:=rA tJ (by kernel_rfl) rfl rfl
def qDw:=ljT [(6,fun st=>[aS st 10 3 false,aS st 12 3 false,aS st 11 3 false,si 13]),(14,fun st=>[aS st 15 279 false,si 16])]
def qDx:=ljT [(9,fun st=>[aS st 10 3 false]),(10,fun st=>[aS st 12 3 false]),(11,fun st=>[aS st 10 3 false,aS st 12 3 false,aS st 11 3 false])]
def zF6(ok:Ka [.rcd 37,.str,.int .i64,.int .i64]→Bool)(m:Ka [.rcd 37,.str,.int .i64,.int .i64]→Ka [.dat 279]):Con aC.T:=oO [(322,fzR (con [.rcd 37,.str,.int .i64,.int .i64] [.dat 279] ok m rfl))] AU3
def qDy(ok:Ka [.rcd 37,.str,.int .i64,.int .i64]→Bool)(m:Ka [.rcd 37,.str,.int .i64,.int .i64]→Ka [.dat 279]):Hd aC.T:=hdT aC Tryz.prog (zF6 ok m) (fun _=>false) 1000 5
def kI:Nat→Ka [.rcd 37,.str,.int .i64,.int .i64]→Option (Ka [.dat 279])
 | 0=>fun _=>none
 | n+1=>hide fun a=>(tree (qDy (fun a=>(kI n a).isSome) fun a=>(kI n a).getD (([],()):(List Sh)×Unit)) qDw qDx 322 [.rcd 37,.str,.int .i64,.int .i64] [.dat 279] a).val
theorem qNr:∀n,aJ 322 (fzR (con [.rcd 37,.str,.int .i64,.int .i64] [.dat 279] (fun a=>(kI n a).isSome) (fun a=>(kI n a).getD (([],()):(List Sh)×Unit)) rfl))
 | 0=>qVq (by kernel_rfl) rfl rfl _
 | n+1=>qP5 (hd:=qDy (fun a=>(kI n a).isSome) fun a=>(kI n a).getD (([],()):(List Sh)×Unit)) (bU mixed hno (fJ (aA (qNr n) eX) qVD) _ _ _) (L:=qDw) (J:=qDx) (ka:=[.rcd 37,.str,.int .i64,.int .i64]) (kr:=[.dat 279]) (by kernel_rfl) rfl rfl (([],()):(List Sh)×Unit) (u:=kI (n+1)) rfl
theorem zF7(n:Nat)(a:Ka [.rcd 37,.str,.int .i64,.int .i64]):kI (n+1) a=(tree (qDy (fun a=>(kI n a).isSome) fun a=>(kI n a).getD (([],()):(List Sh)×Unit)) qDw qDx 322 [.rcd 37,.str,.int .i64,.int .i64] [.dat 279] a).val:=congrFun (qAI _) a
def wQ(fu:Nat)(s:Se)(path:B)(label:Int)(mem:Int):Bool:=(kI fu (s,path,label,mem,())).isSome
def qAn(fu:Nat)(s:Se)(path:B)(label:Int)(mem:Int):(List Sh)×Unit:=(kI fu (s,path,label,mem,())).getD (([],()):(List Sh)×Unit)
def qHt(s:Se)(path:B)(label:Int)(mem:Int):Bool:=wQ 9 s path label mem
def qKE(s:Se)(path:B)(label:Int)(mem:Int):(List Sh)×Unit:=qAn 9 s path label mem
def qSl:TB:=fzR (con [.rcd 37,.str,.int .i64,.int .i64] [.dat 279] (fun a=>qHt a.1 a.2.1 a.2.2.1 a.2.2.2.1) (fun a=>qKE a.1 a.2.1 a.2.2.1 a.2.2.2.1) rfl)
theorem zF8:aJ 322 qSl:=qNr 9
def qVE:=ljT [(3,fun st=>[si 9]),(7,fun st=>[si 11])]
def qNs:=uA qFO qVE noL 273 [.rcd 37,.str,.int .i64] [.int .i64]
def qAZ(s:Se)(path:B)(label:Int):Bool:=(qNs (s,path,label,())).isSome
def qDz(s:Se)(path:B)(label:Int):Int×Unit:=(qNs (s,path,label,())).getD ((0:Int),())
def qNt:TB:=eD aC [.rcd 37,.str,.int .i64] [.int .i64] (fun a=>qAZ a.1 a.2.1 a.2.2.1) (fun a=>qDz a.1 a.2.1 a.2.2.1)
theorem zBk:aJ 273 qNt:=rAb tJ (by kernel_rfl) rfl rfl fun _=>rfl
def zBl:=ljT [(7,fun st=>[.slot 5 (.bool),si 7]++bK st 4 [.rcd 30]),(23,fun st=>[si 11])]
def zBm:=ljT [(8,fun st=>[.slot 5 (.bool)]++bK st 4 [.rcd 30]),(25,fun st=>[si 11]),(27,fun st=>[aS st 12 79 false]),(28,fun st=>[.slot 5 (.bool)]++bK st 4 [.rcd 30])]
def qSm:=uA qFO zBl zBm 108 [.str] [.rcd 30,.int .i64]
def qD0(s:B):Bool:=(qSm (s,())).isSome
def qFR(s:B):Cf×Int×Unit:=(qSm (s,())).getD (dCf,(0:Int),())
def qSn:TB:=fzR (con [.str] [.rcd 30,.int .i64] (fun a=>qD0 a.1) (fun a=>qFR a.1) rfl)
theorem zF9:aJ 108 qSn:=rA tJ (by kernel_rfl) rfl rfl
def zBn:=ljT [(6,fun st=>[si 3]),(11,fun st=>[si 4])]
def qSo:=uA qFO zBn noL 109 [.rcd 30] [.int .i64]
def qD1(c:Cf):Bool:=(qSo (c,())).isSome
def qFS(c:Cf):Int×Unit:=(qSo (c,())).getD ((0:Int),())
def qSp:TB:=eD aC [.rcd 30] [.int .i64] (fun a=>qD1 a.1) (fun a=>qFS a.1)
theorem zFA:aJ 109 qSp:=rAb tJ (by kernel_rfl) rfl rfl fun _=>rfl
def qYr:=uA qFO noL noL 373 [.rcd 37,.str,.int .i64] [.rcd 40]
def qFT(s:Se)(path:B)(label:Int):Bool:=(qYr (s,path,label,())).isSome
def qIO(s:Se)(path:B)(label:Int):Vec×Unit:=(qYr (s,path,label,())).getD (gQ,())
def qYs:TB:=eD aC [.rcd 37,.str,.int .i64] [.rcd 40] (fun a=>qFT a.1 a.2.1 a.2.2.1) (fun a=>qIO a.1 a.2.1 a.2.2.1)
theorem zJC:aJ 373 qYs:=rAb tJ (by kernel_rfl) rfl rfl fun _=>rfl
def AU4:Con aC.T:=oO [(316,qSk),(460,qNq),(313,qYo),(46,qYq),(322,qSl),(273,qNt),(108,qSn),(109,qSp),(373,qYs)] AU3
theorem zFB:iH Tryz.prog AU4:=fJ (aA zF3 (aA zBj (aA zJA (aA zJB (aA zF8 (aA zBk (aA zF9 (aA zFA (aA zJC (eX)))))))))) qVD
def qNu:Hd aC.T:=hdT aC Tryz.prog AU4 (fun _=>false) 1000 5
theorem qCh:bI Tryz.prog qNu:=bU mixed hno zFB _ _ _
def zBo:=ljT [(4,fun st=>[aS st 8 9 false,si 9]),(7,fun st=>[si 10])]
def zBp:=ljT [(5,fun st=>[aS st 8 9 false]),(9,fun st=>[si 10]),(10,fun st=>[aS st 11 9 false]),(11,fun st=>[aS st 11 9 false])]
def qSq:=uA qNu zBo zBp 419 [.rcd 37,.str,.int .i64] [.dat 9]
def qD2(s:Se)(path:B)(label:Int):Bool:=(qSq (s,path,label,())).isSome
def qFU(s:Se)(path:B)(label:Int):(List B)×Unit:=(qSq (s,path,label,())).getD ([],())
def qSr:TB:=fzR (con [.rcd 37,.str,.int .i64] [.dat 9] (fun a=>qD2 a.1 a.2.1 a.2.2.1) (fun a=>qFU a.1 a.2.1 a.2.2.1) rfl)
theorem zFC:aJ 419 qSr:=rA qCh (by kernel_rfl) rfl rfl
def zFD:=ljT [(8,fun st=>bK st 7 [.rcd 43]++bK st 5 [.rcd 37])]
def qYt:=uA qNu noL zFD 320 [.rcd 37,.rcd 53,.rcd 43,.rcd 131,.bool] [.rcd 37,.int .i64,.rcd 46]
def qFV(s:Se)(n:Nd)(a:Ap)(x:Ak)(first:Bool):Bool:=(qYt (s,n,a,x,first,())).isSome
def qIP(s:Se)(n:Nd)(a:Ap)(x:Ak)(first:Bool):Se×Int×Ct×Unit:=(qYt (s,n,a,x,first,())).getD (dSe,(0:Int),dCt,())
def qYu:TB:=fzR (con [.rcd 37,.rcd 53,.rcd 43,.rcd 131,.bool] [.rcd 37,.int .i64,.rcd 46] (fun a=>qFV a.1 a.2.1 a.2.2.1 a.2.2.2.1 a.2.2.2.2.1) (fun a=>qIP a.1 a.2.1 a.2.2.1 a.2.2.2.1 a.2.2.2.2.1) rfl)
theorem zJD:aJ 320 qYu:=rA qCh (by kernel_rfl) rfl rfl
def qSs:=uA qNu noL noL 314 [.rcd 37,.str,.int .i64,.int .i64] [.bool]
def qAo(s:Se)(leaf:B)(label:Int)(user:Int):Bool:=(qSs (s,leaf,label,user,())).isSome
def qCi(s:Se)(leaf:B)(label:Int)(user:Int):Bool×Unit:=(qSs (s,leaf,label,user,())).getD (false,())
def qSt:TB:=eD aC [.rcd 37,.str,.int .i64,.int .i64] [.bool] (fun a=>qAo a.1 a.2.1 a.2.2.1 a.2.2.2.1) (fun a=>qCi a.1 a.2.1 a.2.2.1 a.2.2.2.1)
theorem zFE:aJ 314 qSt:=rAb qCh (by kernel_rfl) rfl rfl fun _=>rfl
def qSu:=ljT [(4,fun st=>[aS st 5 279 false,si 7]),(7,fun st=>[si 8])]
def qSv:=ljT [(5,fun st=>[aS st 5 279 false]),(9,fun st=>[si 8]),(10,fun st=>[aS st 9 279 false]),(11,fun st=>[aS st 9 279 false])]
def qKF:=uA qNu qSu qSv 272 [.rcd 37,.int .i64] [.dat 279]
def tK(s:Se)(label:Int):Bool:=(qKF (s,label,())).isSome
def rJ(s:Se)(label:Int):(List Sh)×Unit:=(qKF (s,label,())).getD ([],())
def qKG:TB:=fzR (con [.rcd 37,.int .i64] [.dat 279] (fun a=>tK a.1 a.2.1) (fun a=>rJ a.1 a.2.1) rfl)
theorem qVF:aJ 272 qKG:=rA qCh (by kernel_rfl) rfl rfl
def qSw:=ljT [(9,fun st=>[si 8]),(14,fun st=>[si 9])]
def qSx:=ljT [(4,fun st=>[si 7])]
def qKH:=uA qNu qSw qSx 39 [.rcd 37,.str] [.rcd 37,.rcd 49]
def xY(s:Se)(text:B):Bool:=(qKH (s,text,())).isSome
def wR(s:Se)(text:B):Se×Ou×Unit:=(qKH (s,text,())).getD (dSe,dOu,())
def qKI:TB:=fzR (con [.rcd 37,.str] [.rcd 37,.rcd 49] (fun a=>xY a.1 a.2.1) (fun a=>wR a.1 a.2.1) rfl)
theorem qVG:aJ 39 qKI:=rA qCh (by kernel_rfl) rfl rfl
def AU5:Con aC.T:=oO [(419,qSr),(320,qYu),(314,qSt),(272,qKG),(39,qKI)] AU4
theorem qVH:iH Tryz.prog AU5:=fJ (aA zFC (aA zJD (aA zFE (aA qVF (aA qVG (eX)))))) zFB
def qYv:Hd aC.T:=hdT aC Tryz.prog AU5 (fun _=>false) 1000 5
theorem qKJ:bI Tryz.prog qYv:=bU mixed hno qVH _ _ _
def xZ:=ljT [(6,fun st=>[aS st 8 9 false,si 9])]
def qVI(ok:Ka [.rcd 37,.str,.int .i64]→Bool)(m:Ka [.rcd 37,.str,.int .i64]→Ka [.dat 9]):Con aC.T:=oO [(380,fzR (con [.rcd 37,.str,.int .i64] [.dat 9] ok m rfl))] AU5
def yA(ok:Ka [.rcd 37,.str,.int .i64]→Bool)(m:Ka [.rcd 37,.str,.int .i64]→Ka [.dat 9]):Hd aC.T:=hdT aC Tryz.prog (qVI ok m) (fun _=>false) 1000 5
def gK:Nat→Ka [.rcd 37,.str,.int .i64]→Option (Ka [.dat 9])
 | 0=>fun _=>none
 | n+1=>hide fun a=>(tree (yA (fun a=>(gK n a).isSome) fun a=>(gK n a).getD (([],()):(List B)×Unit)) xZ noL 380 [.rcd 37,.str,.int .i64] [.dat 9] a).val
theorem qIc:∀n,aJ 380 (fzR (con [.rcd 37,.str,.int .i64] [.dat 9] (fun a=>(gK n a).isSome) (fun a=>(gK n a).getD (([],()):(List B)×Unit)) rfl))
 | 0=>qVq (by kernel_rfl) rfl rfl _
 | n+1=>qP5 (hd:=yA (fun a=>(gK n a).isSome) fun a=>(gK n a).getD (([],()):(List B)×Unit)) (bU mixed hno (fJ (aA (qIc n) eX) qVH) _ _ _) (L:=xZ) (J:=noL) (ka:=[.rcd 37,.str,.int .i64]) (kr:=[.dat 9]) (by kernel_rfl) rfl rfl (([],()):(List B)×Unit) (u:=gK (n+1)) rfl
theorem qVJ(n:Nat)(a:Ka [.rcd 37,.str,.int .i64]):gK (n+1) a=(tree (yA (fun a=>(gK n a).isSome) fun a=>(gK n a).getD (([],()):(List B)×Unit)) xZ noL 380 [.rcd 37,.str,.int .i64] [.dat 9] a).val:=congrFun (qAI _) a
def pR(fu:Nat)(s:Se)(path:B)(label:Int):Bool:=(gK fu (s,path,label,())).isSome
def tL(fu:Nat)(s:Se)(path:B)(label:Int):(List B)×Unit:=(gK fu (s,path,label,())).getD (([],()):(List B)×Unit)
def qCj(s:Se)(path:B)(label:Int):Bool:=pR 9 s path label
def qE5(s:Se)(path:B)(label:Int):(List B)×Unit:=tL 9 s path label
def qKK:TB:=fzR (con [.rcd 37,.str,.int .i64] [.dat 9] (fun a=>qCj a.1 a.2.1 a.2.2.1) (fun a=>qE5 a.1 a.2.1 a.2.2.1) rfl)
theorem qVK:aJ 380 qKK:=qIc 9
def qSy:=uA qYv noL noL 265 [.rcd 37,.rcd 53,.rcd 91] [.rcd 37,.int .i64,.rcd 46,.bool]
def qD3(s:Se)(n:Nd)(x:Sl):Bool:=(qSy (s,n,x,())).isSome
def qFW(s:Se)(n:Nd)(x:Sl):Se×Int×Ct×Bool×Unit:=(qSy (s,n,x,())).getD (dSe,(0:Int),dCt,false,())
def qSz:TB:=fzR (con [.rcd 37,.rcd 53,.rcd 91] [.rcd 37,.int .i64,.rcd 46,.bool] (fun a=>qD3 a.1 a.2.1 a.2.2.1) (fun a=>qFW a.1 a.2.1 a.2.2.1) rfl)
theorem zFF:aJ 265 qSz:=rA qKJ (by kernel_rfl) rfl rfl
def zFG:=ljT [(3,fun st=>[si 8])]
def qYw:=uA qYv zFG noL 271 [.rcd 37,.int .i64,.str] [.int .i64]
def qFX(s:Se)(label:Int)(path:B):Bool:=(qYw (s,label,path,())).isSome
def qIQ(s:Se)(label:Int)(path:B):Int×Unit:=(qYw (s,label,path,())).getD ((0:Int),())
def qYx:TB:=eD aC [.rcd 37,.int .i64,.str] [.int .i64] (fun a=>qFX a.1 a.2.1 a.2.2.1) (fun a=>qIQ a.1 a.2.1 a.2.2.1)
theorem zJE:aJ 271 qYx:=rAb qKJ (by kernel_rfl) rfl rfl fun _=>rfl
def zBq:=ljT [(4,fun st=>[si 6,si 7]),(8,fun st=>[aS st 8 3 false]),(11,fun st=>[si 9,si 11]++bK st 10 [.rcd 46])]
def zBr:=ljT [(7,fun st=>[si 6]),(12,fun st=>[si 9]++bK st 10 [.rcd 46]),(18,fun st=>[si 9]++bK st 10 [.rcd 46])]
def qS0:=uA qYv zBq zBr 211 [.rcd 37,.int .i64] [.dat 3]
def qD4(s:Se)(label:Int):Bool:=(qS0 (s,label,())).isSome
def qFY(s:Se)(label:Int):(List Int)×Unit:=(qS0 (s,label,())).getD ([],())
def qS1:TB:=fzR (con [.rcd 37,.int .i64] [.dat 3] (fun a=>qD4 a.1 a.2.1) (fun a=>qFY a.1 a.2.1) rfl)
theorem zFH:aJ 211 qS1:=rA qKJ (by kernel_rfl) rfl rfl
def AU6:Con aC.T:=oO [(380,qKK),(265,qSz),(271,qYx),(211,qS1)] AU5
theorem zFI:iH Tryz.prog AU6:=fJ (aA qVK (aA zFF (aA zJE (aA zFH (eX))))) qVH
def zFJ:Hd aC.T:=hdT aC Tryz.prog AU6 (fun _=>false) 1000 5
theorem qS2:bI Tryz.prog zFJ:=bU mixed hno zFI _ _ _
def zBs:=ljT [(3,fun st=>[aS st 5 46 false,si 6]),(9,fun st=>[si 8]++bK st 2 [.rcd 37])]
def zBt:=ljT [(4,fun st=>[aS st 5 46 false]),(8,fun st=>[aS st 5 46 false]),(10,fun st=>bK st 2 [.rcd 37])]
def qS3:=uA zFJ zBs zBt 210 [.rcd 37,.int .i64] [.rcd 37]
def qD5(s:Se)(label:Int):Bool:=(qS3 (s,label,())).isSome
def qFZ(s:Se)(label:Int):Se×Unit:=(qS3 (s,label,())).getD (dSe,())
def qS4:TB:=fzR (con [.rcd 37,.int .i64] [.rcd 37] (fun a=>qD5 a.1 a.2.1) (fun a=>qFZ a.1 a.2.1) rfl)
theorem zFK:aJ 210 qS4:=rA qS2 (by kernel_rfl) rfl rfl
def qVL:=ljT [(3,fun st=>[si 10]++bK st 3 [.rcd 37]),(7,fun st=>[si 12]++bK st 3 [.rcd 37]),(12,fun st=>[si 15]++bK st 3 [.rcd 37])]
def qVM:=ljT [(4,fun st=>bK st 3 [.rcd 37]),(8,fun st=>bK st 3 [.rcd 37]),(13,fun st=>bK st 3 [.rcd 37])]
def qNv:=uA zFJ qVL qVM 266 [.rcd 37,.rcd 53,.bool] [.rcd 37,.int .i64,.rcd 46]
def nY(s:Se)(n:Nd)(first:Bool):Bool:=(qNv (s,n,first,())).isSome
def fE(s:Se)(n:Nd)(first:Bool):Se×Int×Ct×Unit:=(qNv (s,n,first,())).getD (dSe,(0:Int),dCt,())
def qNw:TB:=fzR (con [.rcd 37,.rcd 53,.bool] [.rcd 37,.int .i64,.rcd 46] (fun a=>nY a.1 a.2.1 a.2.2.1) (fun a=>fE a.1 a.2.1 a.2.2.1) rfl)
theorem zBu:aJ 266 qNw:=rA qS2 (by kernel_rfl) rfl rfl
def AU7:Con aC.T:=oO [(210,qS4),(266,qNw)] AU6
theorem zFL:iH Tryz.prog AU7:=fJ (aA zFK (aA zBu (eX))) zFI
def zFM:Hd aC.T:=hdT aC Tryz.prog AU7 (fun _=>false) 1000 5
theorem qS5:bI Tryz.prog zFM:=bU mixed hno zFL _ _ _
def qVN:=ljT [(3,fun st=>[si 5]++bK st 1 [.rcd 37]),(8,fun st=>[si 7]++bK st 1 [.rcd 37])]
def qVO:=ljT [(4,fun st=>bK st 1 [.rcd 37]),(11,fun st=>bK st 1 [.rcd 37])]
def qNx:=uA zFM qVN qVO 135 [.rcd 37] [.rcd 37,.dat 3]
def qBa(s:Se):Bool:=(qNx (s,())).isSome
def qD6(s:Se):Se×(List Int)×Unit:=(qNx (s,())).getD (dSe,[],())
def qNy:TB:=fzR (con [.rcd 37] [.rcd 37,.dat 3] (fun a=>qBa a.1) (fun a=>qD6 a.1) rfl)
theorem zBv:aJ 135 qNy:=rA qS5 (by kernel_rfl) rfl rfl
def zFN:=ljT [(10,fun st=>bK st 2 [.rcd 37]++bK st 4 [.rcd 37]++bK st 6 [.rcd 46])]
def qYy:=uA zFM noL zFN 207 [.rcd 37,.int .i64] [.rcd 37,.int .i64,.rcd 46]
def qGa(s:Se)(node:Int):Bool:=(qYy (s,node,())).isSome
def qIR(s:Se)(node:Int):Se×Int×Ct×Unit:=(qYy (s,node,())).getD (dSe,(0:Int),dCt,())
def qYz:TB:=fzR (con [.rcd 37,.int .i64] [.rcd 37,.int .i64,.rcd 46] (fun a=>qGa a.1 a.2.1) (fun a=>qIR a.1 a.2.1) rfl)
theorem zJF:aJ 207 qYz:=rA qS5 (by kernel_rfl) rfl rfl
def AU8:Con aC.T:=oO [(135,qNy),(207,qYz)] AU7
theorem zFO:iH Tryz.prog AU8:=fJ (aA zBv (aA zJF (eX))) zFL
def zFP:Hd aC.T:=hdT aC Tryz.prog AU8 (fun _=>false) 1000 5
theorem qS6:bI Tryz.prog zFP:=bU mixed hno zFO _ _ _
def zBw:=ljT [(9,fun st=>[si 8]++bK st 2 [.rcd 37]),(15,fun st=>[si 9]++bK st 2 [.rcd 37]),(20,fun st=>[aS st 10 55 false,si 11])]
def zBx:=ljT [(13,fun st=>bK st 2 [.rcd 37]),(18,fun st=>bK st 2 [.rcd 37]),(21,fun st=>[aS st 10 55 false]),(24,fun st=>[aS st 10 55 false])]
def qS7:=uA zFP zBw zBx 45 [.rcd 37,.int .i64] [.rcd 37,.rcd 49]
def qD7(s:Se)(n:Int):Bool:=(qS7 (s,n,())).isSome
def qCk(s:Se)(n:Int):Se×Ou×Unit:=(qS7 (s,n,())).getD (dSe,dOu,())
def qS8:TB:=fzR (con [.rcd 37,.int .i64] [.rcd 37,.rcd 49] (fun a=>qD7 a.1 a.2.1) (fun a=>qCk a.1 a.2.1) rfl)
theorem zFQ:aJ 45 qS8:=rA qS6 (by kernel_rfl) rfl rfl
def zBy:=ljT [(3,fun st=>[aS st 6 46 false,si 7]++bK st 2 [.rcd 37])]
def zBz:=ljT [(4,fun st=>[aS st 6 46 false]++bK st 2 [.rcd 37])]
def qS9:=uA zFP zBy zBz 118 [.rcd 37,.int .i64] [.rcd 37,.dat 46]
def vO(s:Se)(node:Int):Bool:=(qS9 (s,node,())).isSome
def wS(s:Se)(node:Int):Se×(List Ct)×Unit:=(qS9 (s,node,())).getD (dSe,[],())
def qSA:TB:=fzR (con [.rcd 37,.int .i64] [.rcd 37,.dat 46] (fun a=>vO a.1 a.2.1) (fun a=>wS a.1 a.2.1) rfl)
theorem zFR:aJ 118 qSA:=rA qS6 (by kernel_rfl) rfl rfl
def AU9:Con aC.T:=oO [(45,qS8),(118,qSA)] AU8
theorem zFS:iH Tryz.prog AU9:=fJ (aA zFQ (aA zFR (eX))) zFO
def zL0:Hd aC.T:=hdT aC Tryz.prog AU9 (fun _=>false) 1000 5
theorem zFT:bI Tryz.prog zL0:=bU mixed hno zFS _ _ _
def zB0:=ljT [(9,fun st=>[aS st 10 3 false,si 11])]
def zB1:=ljT [(10,fun st=>[aS st 10 3 false]),(14,fun st=>[aS st 10 3 false])]
def qSB:=uA zL0 zB0 zB1 41 [.rcd 37,.rcd 57] [.rcd 37,.rcd 49]
def qD8(s:Se)(x:Ip):Bool:=(qSB (s,x,())).isSome
def qCl(s:Se)(x:Ip):Se×Ou×Unit:=(qSB (s,x,())).getD (dSe,dOu,())
def qSC:TB:=fzR (con [.rcd 37,.rcd 57] [.rcd 37,.rcd 49] (fun a=>qD8 a.1 a.2.1) (fun a=>qCl a.1 a.2.1) rfl)
theorem zFU:aJ 41 qSC:=rA zFT (by kernel_rfl) rfl rfl
def zML:Con aC.T:=oO [(41,qSC)] AU9
theorem qY0:iH Tryz.prog zML:=fJ (aA zFU (eX)) zFS
def zFV:Hd aC.T:=hdT aC Tryz.prog zML (fun _=>false) 1000 5
theorem zB2:bI Tryz.prog zFV:=bU mixed hno qY0 _ _ _
def zB3:=ljT [(31,fun st=>bK st 4 [.rcd 37]++bK st 5 [.rcd 49]++bK st 2 [.rcd 37])]
def qSD:=uA zFV noL zB3 15 [.rcd 37,.rcd 57] [.rcd 37,.rcd 49]
def qAp(s:Se)(x:Ip):Bool:=(qSD (s,x,())).isSome
def qCm(s:Se)(x:Ip):Se×Ou×Unit:=(qSD (s,x,())).getD (dSe,dOu,())
def qSE:TB:=fzR (con [.rcd 37,.rcd 57] [.rcd 37,.rcd 49] (fun a=>qAp a.1 a.2.1) (fun a=>qCm a.1 a.2.1) rfl)
theorem zFW:aJ 15 qSE:=rA zB2 (by kernel_rfl) rfl rfl
def zMM:Con aC.T:=oO [(15,qSE)] zML
theorem qY1:iH Tryz.prog zMM:=fJ (aA zFW (eX)) qY0
def qCn:Hd aC.T:=hdT aC Tryz.prog zMM (fun _=>false) 1000 5
theorem rM:bI Tryz.prog qCn:=bU mixed hno qY1 _ _ _
end Go.Proofs.YtlmkakccmpncjaaGreatDoor
