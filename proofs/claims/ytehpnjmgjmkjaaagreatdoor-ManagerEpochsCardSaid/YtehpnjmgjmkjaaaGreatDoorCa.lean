/- Part of the proof. No conditions. -/
import Derived.Test.YtehpnjmgjmkjaaaGreatDoorAa
import Derived.Test.YtehpnjmgjmkjaaaGreatDoorVg
noncomputable section
namespace Go.Proofs.YtehpnjmgjmkjaaaGreatDoor
open Go Go.W Go.Proofs
set_option maxRecDepth 100000
def kip(m:Nat):List Kd:=[.int .i64,.int .i64,.int .i64,.int .i64,.str,.rcd 57,.rcd 47,.dat 95,.own m 3 false,.rcd 59]
def qBX(st:St aC.T)(t:Nat):List Ld:=match st.env.get t with | some (.ptr i _ _)=>[.obj i (kip (match st.hp.get i with | some (.rows _ [cs])=>(match cs.getD (Nat.add 6 (Nat.add (Kd.w aC (.rcd 57)) (Kd.w aC (.rcd 47)))) .any with | .sl j _ _ _=>j | _=>Nat.add st.hp.nx 50) | _=>0))] | _=>[]
def qLp(id:Nat)(_st:St aC.T):Option (List Ld):=match id with
 | 4=>some ([.slot 5 (.int .i64)])
 | _=>none
def qGQ:Ka [.int .i64,.int .i64]→Option (Ka [.int .i64]):=hide fun a=>(tree qBW noL qLp 67 [.int .i64,.int .i64] [.int .i64] a).val
def jC(k:Int)(n:Int):Bool:=(qGQ (k,n,())).isSome
def dF(k:Int)(n:Int):Int×Unit:=(qGQ (k,n,())).getD ((0,()):Int×Unit)
def qGR:TB:=fM aC [.int .i64,.int .i64] [.int .i64] (fun a=>jC a.1 a.2.1) (fun a=>dF a.1 a.2.1)
theorem qOi:aM 67 qGR:=bZ qX (L:=noL) (J:=qLp) (ka:=[.int .i64,.int .i64]) (kr:=[.int .i64]) (by kernel_rfl) rfl rfl ((0,()):Int×Unit) (u:=qGQ) rfl fun _=>rfl
def qQl:Ka [.dat 3,.int .i64]→Option (Ka [.int .i64]):=hide fun a=>(tree qBW noL noL 69 [.dat 3,.int .i64] [.int .i64] a).val
def sU(ns:List Int)(i:Int):Bool:=(qQl (ns,i,())).isSome
def bR(ns:List Int)(i:Int):Int×Unit:=(qQl (ns,i,())).getD ((0,()):Int×Unit)
def qQm:TB:=fM aC [.dat 3,.int .i64] [.int .i64] (fun a=>sU a.1 a.2.1) (fun a=>bR a.1 a.2.1)
theorem qYn:aM 69 qQm:=bZ qX (L:=noL) (J:=noL) (ka:=[.dat 3,.int .i64]) (kr:=[.int .i64]) (by kernel_rfl) rfl rfl ((0,()):Int×Unit) (u:=qQl) rfl fun _=>rfl
def qLq(id:Nat)(_st:St aC.T):Option (List Ld):=match id with
 | 4=>some ([.slot 5 (.int .i64)])
 | _=>none
def qGS:Ka [.int .i64,.int .i64]→Option (Ka [.int .i64]):=hide fun a=>(tree qBW noL qLq 70 [.int .i64,.int .i64] [.int .i64] a).val
def bA(k:Int)(n:Int):Bool:=(qGS (k,n,())).isSome
def aI(k:Int)(n:Int):Int×Unit:=(qGS (k,n,())).getD ((0,()):Int×Unit)
def qOj:TB:=fM aC [.int .i64,.int .i64] [.int .i64] (fun a=>bA a.1 a.2.1) (fun a=>aI a.1 a.2.1)
theorem zA5:aM 70 qOj:=bZ qX (L:=noL) (J:=qLq) (ka:=[.int .i64,.int .i64]) (kr:=[.int .i64]) (by kernel_rfl) rfl rfl ((0,()):Int×Unit) (u:=qGS) rfl fun _=>rfl
def qHO(id:Nat)(_st:St aC.T):Option (List Ld):=match id with
 | 4=>some ([.slot 5 (.int .i64)])
 | _=>none
def qEr:Ka [.int .i64,.int .i64]→Option (Ka [.int .i64]):=hide fun a=>(tree qBW noL qHO 14 [.int .i64,.int .i64] [.int .i64] a).val
def sV(k:Int)(n:Int):Bool:=(qEr (k,n,())).isSome
def gU(k:Int)(n:Int):Int×Unit:=(qEr (k,n,())).getD ((0,()):Int×Unit)
def qEs:TB:=fM aC [.int .i64,.int .i64] [.int .i64] (fun a=>sV a.1 a.2.1) (fun a=>gU a.1 a.2.1)
theorem qLr:aM 14 qEs:=bZ qX (L:=noL) (J:=qHO) (ka:=[.int .i64,.int .i64]) (kr:=[.int .i64]) (by kernel_rfl) rfl rfl ((0,()):Int×Unit) (u:=qEr) rfl fun _=>rfl
def qVS:Ka [.rcd 25]→Option (Ka [.bool]):=hide fun a=>(tree qBW noL noL 7 [.rcd 25] [.bool] a).val
def qIB(x:Scr):Bool:=(qVS (x,())).isSome
def qQn(x:Scr):Bool×Unit:=(qVS (x,())).getD ((false,()):Bool×Unit)
def qVT:TB:=fM aC [.rcd 25] [.bool] (fun a=>qIB a.1) (fun a=>qQn a.1)
theorem zEJ:aM 7 qVT:=bZ qX (L:=noL) (J:=noL) (ka:=[.rcd 25]) (kr:=[.bool]) (by kernel_rfl) rfl rfl ((false,()):Bool×Unit) (u:=qVS) rfl fun _=>rfl
def qLs(id:Nat)(st:St aC.T):Option (List Ld):=match id with
 | 3=>some ([aY st 3 9 false]++[.slot 4 (.int .i64)])
 | _=>none
def qLt(id:Nat)(st:St aC.T):Option (List Ld):=match id with
 | 4=>some ([aY st 3 9 false])
 | _=>none
def qGT:Ka [.rcd 32]→Option (Ka [.dat 9]):=hide fun a=>(tree qBW qLs qLt 71 [.rcd 32] [.dat 9] a).val
def qAP(c:Cf):Bool:=(qGT (c,())).isSome
def pE(c:Cf):(List B)×Unit:=(qGT (c,())).getD (([],()):(List B)×Unit)
def qOk:TB:=fzR (con [.rcd 32] [.dat 9] (fun a=>qAP a.1) (fun a=>pE a.1) rfl)
theorem zA6:aM 71 qOk:=dW qX (L:=qLs) (J:=qLt) (ka:=[.rcd 32]) (kr:=[.dat 9]) (by kernel_rfl) rfl rfl (([],()):(List B)×Unit) (u:=qGT) rfl
def qQo:Ka []→Option (Ka [.rcd 39]):=hide fun a=>(tree qBW noL noL 20 [] [.rcd 39] a).val
def qF5  : Bool:=(qQo (())).isSome
def qAQ  : Se×Unit:=(qQo (())).getD ((dSe,()):Se×Unit)
def qYo:TB:=fzR (con [] [.rcd 39] (fun _a=>qF5 ) (fun _a=>qAQ ) rfl)
theorem zH1:aM 20 qYo:=dW qX (L:=noL) (J:=noL) (ka:=[]) (kr:=[.rcd 39]) (by kernel_rfl) rfl rfl ((dSe,()):Se×Unit) (u:=qQo) rfl
def zJQ:Con aC.T:=oW [(67,qGR),(69,qQm),(70,qOj),(14,qEs),(7,qVT),(71,qOk),(20,qYo)] zJN
theorem qYp:iL Tryz.prog zJQ:=fT (aA qOi (aA qYn (aA zA5 (aA qLr (aA zEJ (aA zA6 (aA zH1 (fH)))))))) qYa
def zEK:Hd aC.T:=hdT aC Tryz.prog zJQ (fun _=>false) 1000 5
theorem zA7:bJ Tryz.prog zEK:=bW mixed hno qYp _ _ _
def qQp:Ka [.int .i64]→Option (Ka [.rcd 27]):=hide fun a=>(tree zEK noL noL 72 [.int .i64] [.rcd 27] a).val
def qAa(n:Int):Bool:=(qQp (n,())).isSome
def qAR(n:Int):Vec×Unit:=(qQp (n,())).getD ((gG,()):Vec×Unit)
def qYq:TB:=fM aC [.int .i64] [.rcd 27] (fun a=>qAa a.1) (fun a=>qAR a.1)
theorem zH2:aM 72 qYq:=bZ zA7 (L:=noL) (J:=noL) (ka:=[.int .i64]) (kr:=[.rcd 27]) (by kernel_rfl) rfl rfl ((gG,()):Vec×Unit) (u:=qQp) rfl fun _=>rfl
def zEL(r l:Int)(args:List VK)(q:VK×Hp aC.T):Out (VK×Hp aC.T):=match Nat.ble q.2.nx 9 with
 | true=>(match args,q.1 with
  | [_,.d (.int _ n)],.d (.int k m)=>(match decide (n=5) with
   | true=>.need (decide (m=r)) (.ret (.d (.int k r),q.2))
   | false=>.need (decide (m=l)) (.ret (.d (.int k l),q.2)))
  | _,_=>.ret q)
 | false=>.ret q
theorem zH3{r l:Int}{args:List VK}{q:VK×Hp aC.T}{Q:VK×Hp aC.T→Prop}(hK:(zEL r l args q).K Q):Q q:=by
 obtain⟨v,h⟩:=q
 unfold zEL at hK
 split at hK
 ·split at hK
  ·rename_i n k m hv
   have hv:v=.d (.int k m):=hv
   subst hv
   split at hK
   ·obtain⟨h1,h2⟩:=Out.cB.1 hK
    have e:m=r:=by simpa using h1
    rw[e];exact h2
   ·obtain⟨h1,h2⟩:=Out.cB.1 hK
    have e:m=l:=by simpa using h1
    rw[e];exact h2
  ·exact hK
 ·exact hK
def zJR(r l:Int)(S:TB):TB:=fun args h=>(S args h).bind fun q=>zEL r l args q
theorem zH4{f:FuncId}{S:TB}{r l:Int}(hS:aM f S):aM f (zJR r l S):=by
 intro args h Q hq
 simp only[zJR,Out.dP] at hq
 have: (S args h).K Q:=by
  rw[Out.gH] at hq ⊢
  obtain⟨q,h1,h2⟩:=hq
  exact⟨q,h1,zH3 h2⟩
 exact hS args h Q this
def qDq:TB:=con [.str] [.str] (fun a=>sm (List.length a.1)) (fun a=>(eZ a.1,())) rfl
theorem zA8:aM 158 qDq:=by
 have e:qDq=vQ:=by unfold qDq vQ;rw[aN]
 rw[e];exact qBC
def AG(r l:Int):Con aC.T:=fun f=>dH [(67,zJR r l qGR),(69,qQm),(158,qDq)] f
theorem zLC(r l:Int):iL Tryz.prog (AG r l):=aA (zH4 qOi) (aA qYn (aA zA8 fH))
def zLD(r l:Int):Hd aC.T:=hdT aC Tryz.prog (AG r l) (fun _=>false) 1000 8
theorem zH5(r l:Int):bJ Tryz.prog (zLD r l):=bW mixed hno (zLC r l) _ _ _
def zLE(st:St aC.T)(t:Nat):List UInt8:=match st.env.get t with
 | some (.ptr i _ _)=>(match st.hp.get i with
  | some (.rows _ [.d (.str s)::_])=>s
  | _=>[])
 | _=>[]
def zLF{α β:Type}:List α→(List α→β)→β
 | [],k=>k []
 | x::l,k=>zLF l fun l=>k (x::l)
def qT1(id:Nat)(st:St aC.T):Option (List Ld):=match id with
 | 10=>zLF (zLE st 9) fun p=>some (bK st 9 [.cst (.str p),.cst .nils,.int .i64])
 | 29=>some ([.slot 16 (.int .i64)])
 | 31=>some ([.slot 17 (.int .i64)])
 | _=>none
def oI(r l:Int)(a:Ka [.int .i64,.dat 3]):DT (Ka [.rcd 32]):=tree (zLD r l) noL qT1 23 [.int .i64,.dat 3] [.rcd 32] a
def uF:Ka [.int .i64,.dat 3]→Option (Ka [.rcd 32]):=hide fun a=>(oI (dF a.1 5).1 (dF (w64 (Int.tdiv a.1 5)) 2).1 a).val
theorem qYr(a:Ka [.int .i64,.dat 3]):uF a=(oI (dF a.1 5).1 (dF (w64 (Int.tdiv a.1 5)) 2).1 a).val:=congrFun (qA2 _) a
def qBY(shape:Int)(ns:List Int):Bool:=(uF (shape,ns,())).isSome
def iW(shape:Int)(ns:List Int):Cf×Unit:=(uF (shape,ns,())).getD ((dCf,()):Cf×Unit)
def qYs:TB:=fzR (con [.int .i64,.dat 3] [.rcd 32] (fun a=>qBY a.1 a.2.1) (fun a=>iW a.1 a.2.1) rfl)
theorem zH6:aM 23 qYs:=by
 refine oF (Spec.nZ ⟨there _ (by kernel_rfl),fun a ha=>?_⟩ (qEZ _ _ _ _ rfl) (fun _=>Nat.zero_le _))
 obtain⟨fn,hfn⟩:∃fn,Tryz.prog.funcs[23]? = some fn:=⟨_,rfl⟩
 refine(qGq (fuel:=1000) (L:=noL) (J:=qT1) mixed (zH5 (dF a.1 5).1 (dF (w64 (Int.tdiv a.1 5)) 2).1) hfn (there _ (by kernel_rfl)) (ka:=[.int .i64,.dat 3]) (kr:=[.rcd 32]) rfl (pre:=fun b=>@decide (b=a) (Classical.propDecidable _)&&qBY b.1 b.2.1) (M:=fun b=>iW b.1 b.2.1) fun b hb=>?_).2 a ?_
 ·simp only[Bool.and_eq_true,decide_eq_true_eq] at hb
  obtain⟨rfl,hb⟩:=hb
  have hu:(uF b).isSome=true:=hb
  have: (oI (dF b.1 5).1 (dF (w64 (Int.tdiv b.1 5)) 2).1 b).G ((uF b).getD ((dCf,()):Cf×Unit)):=by
   rw[qYr] at hu ⊢
   exact DT.qRB hu
  unfold oI tree at this
  rw[hfn] at this
  exact this
 ·exact(Bool.and_eq_true _ _).mpr ⟨@decide_eq_true _ (Classical.propDecidable _) rfl,ha⟩
def zJS:Con aC.T:=oW [(72,qYq),(23,qYs)] zJQ
theorem qYt:iL Tryz.prog zJS:=fT (aA zH2 (aA zH6 (fH))) qYp
def zEM:Hd aC.T:=hdT aC Tryz.prog zJS (fun _=>false) 1000 5
theorem zA9:bJ Tryz.prog zEM:=bW mixed hno qYt _ _ _
def qLu(id:Nat)(st:St aC.T):Option (List Ld):=match id with
 | 14=>some ([.slot 8 (.int .i64)]++qBX st 5)
 | _=>none
def qLv(id:Nat)(st:St aC.T):Option (List Ld):=match id with
 | 10=>some (bK st 7 [.rcd 95])
 | 12=>some (bK st 7 [.rcd 95])
 | 13=>some (qBX st 5)
 | 15=>some (qBX st 5)
 | _=>none
def qGU:Ka [.rcd 72,.rcd 39]→Option (Ka [.rcd 61]):=hide fun a=>(tree zEM qLu qLv 73 [.rcd 72,.rcd 39] [.rcd 61] a).val
def qAS(a:Act)(s:Se):Bool:=(qGU (a,s,())).isSome
def qDr(a:Act)(s:Se):Ip×Unit:=(qGU (a,s,())).getD ((dIp,()):Ip×Unit)
def qOl:TB:=fzR (con [.rcd 72,.rcd 39] [.rcd 61] (fun a=>qAS a.1 a.2.1) (fun a=>qDr a.1 a.2.1) rfl)
theorem zAA:aM 73 qOl:=dW zA9 (L:=qLu) (J:=qLv) (ka:=[.rcd 72,.rcd 39]) (kr:=[.rcd 61]) (by kernel_rfl) rfl rfl ((dIp,()):Ip×Unit) (u:=qGU) rfl
def zJT:Con aC.T:=oW [(73,qOl)] zJS
theorem qYu:iL Tryz.prog zJT:=fT (aA zAA (fH)) qYt
def zEN:Hd aC.T:=hdT aC Tryz.prog zJT (fun _=>false) 1000 5
theorem zAB:bJ Tryz.prog zEN:=bW mixed hno qYu _ _ _
def qOm(id:Nat)(st:St aC.T):Option (List Ld):=match id with
 | 15=>some ([.slot 9 (.int .i64)]++qBX st 8)
 | 20=>some ([.slot 10 (.int .i64)]++qBX st 8)
 | _=>none
def qOn(id:Nat)(st:St aC.T):Option (List Ld):=match id with
 | 7=>some ([.slot 30 (.bool)])
 | 13=>some ([.slot 53 (.bool)])
 | 16=>some (qBX st 8)
 | 19=>some (qBX st 8)
 | 21=>some (qBX st 8)
 | 26=>some ([.slot 121 (.bool)])
 | 31=>some ([.slot 148 (.bool)])
 | 37=>some ([.slot 168 (.bool)])
 | _=>none
def qLw:Ka [.rcd 72,.rcd 39]→Option (Ka [.rcd 61]):=hide fun a=>(tree zEN qOm qOn 24 [.rcd 72,.rcd 39] [.rcd 61] a).val
def qDs(a:Act)(s:Se):Bool:=(qLw (a,s,())).isSome
def qBZ(a:Act)(s:Se):Ip×Unit:=(qLw (a,s,())).getD ((dIp,()):Ip×Unit)
def qT2:TB:=fzR (con [.rcd 72,.rcd 39] [.rcd 61] (fun a=>qDs a.1 a.2.1) (fun a=>qBZ a.1 a.2.1) rfl)
theorem zEO:aM 24 qT2:=dW zAB (L:=qOm) (J:=qOn) (ka:=[.rcd 72,.rcd 39]) (kr:=[.rcd 61]) (by kernel_rfl) rfl rfl ((dIp,()):Ip×Unit) (u:=qLw) rfl
def zLG:Con aC.T:=oW [(24,qT2)] zJT
theorem zH7:iL Tryz.prog zLG:=fT (aA zEO (fH)) qYu
def zEP:Hd aC.T:=hdT aC Tryz.prog zLG (fun _=>false) 1000 5
theorem zAC:bJ Tryz.prog zEP:=bW mixed hno zH7 _ _ _
def qOo(id:Nat)(st:St aC.T):Option (List Ld):=match id with
 | 6=>some ([.slot 6 (.int .i64)]++bK st 3 [.rcd 39])
 | _=>none
def qOq(id:Nat)(st:St aC.T):Option (List Ld):=match id with
 | 5=>some (bK st 3 [.rcd 39])
 | _=>none
def qLx:Ka [.rcd 25]→Option (Ka [.rcd 39]):=hide fun a=>(tree zEP qOo qOq 8 [.rcd 25] [.rcd 39] a).val
def qDt(x:Scr):Bool:=(qLx (x,())).isSome
def aP(x:Scr):Se×Unit:=(qLx (x,())).getD ((dSe,()):Se×Unit)
def qT3:TB:=fzR (con [.rcd 25] [.rcd 39] (fun a=>qDt a.1) (fun a=>aP a.1) rfl)
theorem zEQ:aM 8 qT3:=dW zAC (L:=qOo) (J:=qOq) (ka:=[.rcd 25]) (kr:=[.rcd 39]) (by kernel_rfl) rfl rfl ((dSe,()):Se×Unit) (u:=qLx) rfl
end Go.Proofs.YtehpnjmgjmkjaaaGreatDoor
