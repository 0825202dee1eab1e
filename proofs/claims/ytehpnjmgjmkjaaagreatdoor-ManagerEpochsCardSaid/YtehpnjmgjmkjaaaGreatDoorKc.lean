/- Part of the proof. No conditions. -/
import Derived.Test.YtehpnjmgjmkjaaaGreatDoorKa
import Derived.WalkKit
import Derived.Lib.Walk
import Derived.Lib.Bytealg
noncomputable section
namespace Go.Proofs.YtehpnjmgjmkjaaaGreatDoor
open Go Go.W Go.Proofs Go.RowKit
set_option maxHeartbeats 1000000 in
set_option maxRecDepth 100000 in
theorem cIx(s:ByteArray)(c:Int)(w:World) :
  Calls Tryz.prog 436 #[.string s,.int .u8 c] w fun e w'=>e=.returned (.int .i64 (Lib.indexByte s.data.toList c.toNat.toUInt8))∧w' = w:=by
 go_enter Tryz.func436,Tryz.ntmps436
 go_wp2
 rw[run_callFunc_extern Tryz.func475 (by kernel_rfl) (by kernel_rfl) (by kernel_rfl) (e:=Extern.BytealgIndexByte.indexByte) (by kernel_rfl),Lib.run_indexByteString]
 simp only[Result.andThen]
 rw[Oper.upon_value]
 go_wp2
 go_ret
 exact⟨rfl,rfl⟩
set_option maxHeartbeats 1000000 in
set_option maxRecDepth 100000 in
theorem cCt(s:ByteArray)(c:UInt8)(w:World) :
  Calls Tryz.prog 343 #[.string s,.string ⟨#[c]⟩] w fun e w'=>e=.returned (.int .i64 (Lib.countByte s.data.toList c))∧w' = w:=by
 go_enter Tryz.func343,Tryz.ntmps343
 go_wp2
 rw[run_callFunc_extern Tryz.func404 (by kernel_rfl) (by kernel_rfl) (by kernel_rfl) (e:=Extern.BytealgCount.count) (by kernel_rfl),Lib.run_countString]
 simp only[Result.andThen]
 rw[Oper.upon_value]
 go_wp2
 go_ret
 exact⟨rfl,rfl⟩
theorem qUi{F:Nat→Prop}{w:World}{φ:Phi}{v u:V aC.T}{cs:Array Value}(hl:nL F w φ [v,u] cs):∃c d,cs = #[c,d]∧aK aC F w φ v c∧aK aC F w φ u d:=by
 have h1:cs.size=2:=hl.1.symm
 refine⟨cs.getD 0 undef,cs.getD 1 undef,?_,hl.2 0 (by simp),hl.2 1 (by simp)⟩
 apply Array.ext
 ·simpa using h1
 ·intro i h2 h3
  have h4:i<2:=by simpa using h3
  match i,h4 with
  | 0,_=>simp[h1]
  | 1,_=>simp[h1]
def zKL:TB:=fun args h=>match args with | [.d (.str s),.d (.int .u8 c)]=>(.ret (.d (.int .i64 (Lib.indexByte s c.toNat.toUInt8)),h)) | _=>.bad
def zKM:TB:=fun args h=>match args with | [.d (.str s),.d (.str [c])]=>(.ret (.d (.int .i64 (Lib.countByte s c)),h)) | _=>.bad
theorem zMD:aM 436 zKL:=by
 intro args h Q hq
 unfold zKL at hq
 split at hq
 ·rename_i s c
  refine⟨there 436 (by kernel_rfl),fun N F φ w cargs _ hH hl=>?_⟩
  obtain⟨x,y,rfl,hx,hy⟩:=qUi hl
  rw[hx.iQ,hy.dL]
  refine(cIx _ c w).mono fun e w' ⟨he,hw⟩=>?_
  subst hw
  exact⟨_,he,Res.pure hH hq (.d _ _ (.int _ _))⟩
 ·exact hq.elim
theorem zME:aM 343 zKM:=by
 intro args h Q hq
 unfold zKM at hq
 split at hq
 ·rename_i s c
  refine⟨there 343 (by kernel_rfl),fun N F φ w cargs _ hH hl=>?_⟩
  obtain⟨x,y,rfl,hx,hy⟩:=qUi hl
  rw[hx.iQ,hy.iQ]
  refine(cCt _ c w).mono fun e w' ⟨he,hw⟩=>?_
  subst hw
  exact⟨_,he,Res.pure hH hq (.d _ _ (.int _ _))⟩
 ·exact hq.elim
end Go.Proofs.YtehpnjmgjmkjaaaGreatDoor
namespace Go.Proofs.YtehpnjmgjmkjaaaGreatDoor
open Go Go.W Go.Proofs
set_option maxRecDepth 100000
def zLU:List (Nat×Option (List Kd)):=[(19,none),(9,none),(25,none),(26,none),(27,none),(28,none),(29,none),(30,none),(31,none),(32,none),(33,none),(34,none),(35,none),(113,none),(115,none),(74,none),(75,none),(76,none),(77,none),(78,none),(79,none),(80,none),(81,none),(82,none),(83,none),(84,none),(85,none),(86,none),(87,none),(88,none),(89,none),(90,none),(91,none),(92,none),(93,none),(94,none),(95,none),(96,none),(97,none),(98,none),(178,none),(166,none),(171,none),(184,none),(167,none),(159,none),(160,none),(161,none),(162,none),(163,none),(164,none),(165,none),(168,none),(169,none),(170,none),(172,none),(241,none),(242,none),(234,none),(243,none),(233,none),(235,none),(236,none),(237,none),(238,none),(239,none),(240,none),(295,none),(293,none),(294,none),(296,none),(297,none),(342,none),(344,none),(341,none),(402,none),(403,none),(405,none),(435,none),(438,none),(439,none),(476,none)]
def zLV:FuncId→List VK→Option (Option (List Kd)):=zFG zLU []
def zMF:List (Nat×(Nat→St aC.T→Option (List Ld))):=[]
def zMG:List (Nat×(Nat→St aC.T→Option (List Ld))):=[]
def zMH(f:FuncId)(id:Nat)(st:St aC.T):Option (List Ld):=match dH zMF f with | some L=>L id st | none=>none
def zMI(f:FuncId)(id:Nat)(st:St aC.T):Option (List Ld):=match dH zMG f with | some L=>L id st | none=>none
def zLW(C:Con aC.T)(cj:FuncId→Option CJK):Nat→ExR aC.T:=exN (hdT aC Tryz.prog C (fun _=>false) 1000 5) cj zLV zMH zMI 16
theorem zIi{C:Con aC.T}{cj:FuncId→Option CJK}(h:qFR C cj):qM5 (zLW C cj):=qW9 (bW mixed hno h.1 _ _ _) (qQD h)
def zKN:T3:=[(15,qQN,none),(10,qQP,none),(436,zKL,none),(343,zKM,none)]
theorem zIj:qLZ zKN:=bD qYY mG (bD qYZ mG (bD zMD mG (bD zME mG (qE2))))
def zLX:Con aC.T:=qM6 zKN (fun _=>none)
def zLY:FuncId→Option CJK:=cj3 zKN (fun _=>none)
theorem zIk:qFR zLX zLY:=qAY zIj qMa
def qHh:Ka []→Option (Ka [.bool]):=hide fun a=>(mF (zLW zLX zLY) noL noL 6 [] [.bool] a).val
def qBa  : Bool:=(qHh (())).isSome
def qD0  : Bool×Unit:=(qHh (())).getD ((false,()):Bool×Unit)
def qOQ:TB:=fM aC [] [.bool] (fun _a=>qBa ) (fun _a=>qD0 )
theorem zBo:aM 6 qOQ:=rM (zIi zIk) (L:=noL) (J:=noL) (ka:=[]) (kr:=[.bool]) (by kernel_rfl) rfl rfl ((false,()):Bool×Unit) (u:=qHh) rfl fun _=>rfl
end Go.Proofs.YtehpnjmgjmkjaaaGreatDoor
end
noncomputable section
namespace Go.Proofs.YtehpnjmgjmkjaaaGreatDoor
open Go Go.W Go.Proofs
open Go.W.DT (ret need br both bad loop join)
set_option maxRecDepth 100000
def zBp  : DT (Bool×Unit) :=
 need (mI (Se.mk (Cf.mk [[]] [Qu.mk [114,111,111,116] [Cp.mk 10000 10000] 10000]) [] [] [] [] [] 0 0 0) (Ip.mk 99 0 0 0 [] dNd dAp [] [] dPn)) (br ((dU (Se.mk (Cf.mk [[]] [Qu.mk [114,111,111,116] [Cp.mk 10000 10000] 10000]) [] [] [] [] [] 0 0 0) (Ip.mk 99 0 0 0 [] dNd dAp [] [] dPn)).2.1.err==3) (need (tK (Se.mk (Cf.mk [[]] [Qu.mk [114,111,111,116] [Cp.mk 10000 10000] 10000]) [] [] [] [] [] 0 0 0) (dU (Se.mk (Cf.mk [[]] [Qu.mk [114,111,111,116] [Cp.mk 10000 10000] 10000]) [] [] [] [] [] 0 0 0) (Ip.mk 99 0 0 0 [] dNd dAp [] [] dPn)).1) (ret ((uK (Se.mk (Cf.mk [[]] [Qu.mk [114,111,111,116] [Cp.mk 10000 10000] 10000]) [] [] [] [] [] 0 0 0) (dU (Se.mk (Cf.mk [[]] [Qu.mk [114,111,111,116] [Cp.mk 10000 10000] 10000]) [] [] [] [] [] 0 0 0) (Ip.mk 99 0 0 0 [] dNd dAp [] [] dPn)).1).1,()))) (ret (false,())))
theorem zBq  {r:(Bool×Unit)} (h:(zBp ).G r):qBa  = true∧qD0  = r:=cZ (wX (())) (by kernel_rfl) h
end Go.Proofs.YtehpnjmgjmkjaaaGreatDoor
namespace Go.Proofs.YtehpnjmgjmkjaaaGreatDoor
open Go Go.W Go.Proofs
set_option maxRecDepth 100000
def zLZ:List (Nat×Option (List Kd)):=[(18,none)]
def zMa:FuncId→List VK→Option (Option (List Kd)):=zFG zLZ []
def zMJ:List (Nat×(Nat→St aC.T→Option (List Ld))):=[]
def zMK:List (Nat×(Nat→St aC.T→Option (List Ld))):=[]
def zML(f:FuncId)(id:Nat)(st:St aC.T):Option (List Ld):=match dH zMJ f with | some L=>L id st | none=>none
def zMM(f:FuncId)(id:Nat)(st:St aC.T):Option (List Ld):=match dH zMK f with | some L=>L id st | none=>none
def zMb(C:Con aC.T)(cj:FuncId→Option CJK):Nat→ExR aC.T:=exN (hdT aC Tryz.prog C (fun _=>false) 1000 5) cj zMa zML zMM 6
theorem zIl{C:Con aC.T}{cj:FuncId→Option CJK}(h:qFR C cj):qM5 (zMb C cj):=qW9 (bW mixed hno h.1 _ _ _) (qQD h)
def zKO:T3:=[(6,qOQ,none),(7,qVT,none),(8,qT3,none),(14,qEs,none),(15,qQN,none),(10,qQP,none)]
theorem zIm:qLZ zKO:=bD zBo mG (bD zEJ mG (bD zEQ mG (bD qLr mG (bD qYY mG (bD qYZ mG (qE2))))))
def zMc:Con aC.T:=qM6 zKO (fun _=>none)
def zMd:FuncId→Option CJK:=cj3 zKO (fun _=>none)
theorem zIn:qFR zMc zMd:=qAY zIm qMa
def qC5:Ka [.rcd 25,.int .i64]→Option (Ka [.bool]):=hide fun a=>(mF (zMb zMc zMd) noL noL 5 [.rcd 25,.int .i64] [.bool] a).val
def qOR(x:Scr)(n:Int):Bool:=(qC5 (x,n,())).isSome
def qMm(x:Scr)(n:Int):Bool×Unit:=(qC5 (x,n,())).getD ((false,()):Bool×Unit)
end Go.Proofs.YtehpnjmgjmkjaaaGreatDoor
namespace Go.Proofs.YtehpnjmgjmkjaaaGreatDoor
open Go Go.W Go.Proofs
open Go.W.DT (ret need br both bad loop join)
set_option maxRecDepth 100000
def qUj(x:Scr)(n:Int):DT (Bool×Unit) :=
 need qBa (br (!qD0.1) (ret (false,())) (need (qIB x) (br (!(qQn x).1) (ret (true,())) (need (qDt x) (need (mI (aP x).1 (Ip.mk 11 0 0 0 [] dNd dAp [] [] dPn)) (br (!(dU (aP x).1 (Ip.mk 11 0 0 0 [] dNd dAp [] [] dPn)).2.1.err==0) (ret (false,())) (br ((dU (aP x).1 (Ip.mk 11 0 0 0 [] dNd dAp [] [] dPn)).1.epoch != w64 ((aP x).1.epoch+1)) (ret (false,())) (br ((dU (aP x).1 (Ip.mk 11 0 0 0 [] dNd dAp [] [] dPn)).1.seq != 0) (ret (false,())) (br ((↑(dU (aP x).1 (Ip.mk 11 0 0 0 [] dNd dAp [] [] dPn)).1.conts.length:Int) != (↑(aP x).1.conts.length:Int)) (ret (false,())) (need (sV n 2) (need (mI (Se.mk (aP x).1.conf (aP x).1.nodes (aP x).1.apps (aP x).1.conts (aP x).1.slots (aP x).1.plans (aP x).1.now (w64 (1048575+(gU n 2).1)) (aP x).1.seq) (Ip.mk 11 0 0 0 [] dNd dAp [] [] dPn)) (need (sV n 2) (br ((gU n 2).1==1) (br ((dU (Se.mk (aP x).1.conf (aP x).1.nodes (aP x).1.apps (aP x).1.conts (aP x).1.slots (aP x).1.plans (aP x).1.now (w64 (1048575+(gU n 2).1)) (aP x).1.seq) (Ip.mk 11 0 0 0 [] dNd dAp [] [] dPn)).2.1.err==11) (need (tK (Se.mk (aP x).1.conf (aP x).1.nodes (aP x).1.apps (aP x).1.conts (aP x).1.slots (aP x).1.plans (aP x).1.now (w64 (1048575+(gU n 2).1)) (aP x).1.seq) (dU (Se.mk (aP x).1.conf (aP x).1.nodes (aP x).1.apps (aP x).1.conts (aP x).1.slots (aP x).1.plans (aP
 x).1.now (w64 (1048575+(gU n 2).1)) (aP x).1.seq) (Ip.mk 11 0 0 0 [] dNd dAp [] [] dPn)).1) (ret ((uK (Se.mk (aP x).1.conf (aP x).1.nodes (aP x).1.apps (aP x).1.conts (aP x).1.slots (aP x).1.plans (aP x).1.now (w64 (1048575+(gU n 2).1)) (aP x).1.seq) (dU (Se.mk (aP x).1.conf (aP x).1.nodes (aP x).1.apps (aP x).1.conts (aP x).1.slots (aP x).1.plans (aP x).1.now (w64 (1048575+(gU n 2).1)) (aP x).1.seq) (Ip.mk 11 0 0 0 [] dNd dAp [] [] dPn)).1).1,()))) (ret (false,()))) (br ((dU (Se.mk (aP x).1.conf (aP x).1.nodes (aP x).1.apps (aP x).1.conts (aP x).1.slots (aP x).1.plans (aP x).1.now (w64 (1048575+(gU n 2).1)) (aP x).1.seq) (Ip.mk 11 0 0 0 [] dNd dAp [] [] dPn)).2.1.err==0) (ret ((dU (Se.mk (aP x).1.conf (aP x).1.nodes (aP x).1.apps (aP x).1.conts (aP x).1.slots (aP x).1.plans (aP x).1.now (w64 (1048575+(gU n 2).1)) (aP x).1.seq) (Ip.mk 11 0 0 0 [] dNd dAp [] [] dPn)).1.epoch==1048576,())) (ret (false,()))))))))))))))))
theorem zGe{x:Scr}{n:Int}{r:(Bool×Unit)}(h:(qUj x n).G r):qOR x n=true∧qMm x n=r:=cZ (wX (x,n,())) (by kernel_rfl) h
end Go.Proofs.YtehpnjmgjmkjaaaGreatDoor
