/- Part of the proof: texts Kx Kn Kt1. No conditions. -/
import Derived.Test.YtlmkakccmpncjaaGreatDoorKa
import Derived.WalkKit
import Derived.Lib.Walk
import Derived.Lib.Bytealg
set_option linter.all false
noncomputable section
namespace Go.Proofs.YtlmkakccmpncjaaGreatDoor
open Go Go.W Go.Proofs Go.RowKit
set_option maxHeartbeats 1000000 in
set_option maxRecDepth 100000 in
theorem cIx(s:ByteArray)(c:Int)(w:World) :
  Calls Tryz.prog 432 #[.string s,.int .u8 c] w fun e w'=>e=.returned (.int .i64 (Lib.indexByte s.data.toList c.toNat.toUInt8))∧w' = w:=by
 go_enter Tryz.func432,Tryz.ntmps432
 go_wp2
 rw[run_callFunc_extern Tryz.func469 (by kernel_rfl) (by kernel_rfl) (by kernel_rfl) (e:=Extern.BytealgIndexByte.indexByte) (by kernel_rfl),Lib.run_indexByteString]
 simp only[Result.andThen]
 rw[Oper.upon_value]
 go_wp2
 go_ret
 exact⟨rfl,rfl⟩
set_option maxHeartbeats 1000000 in
set_option maxRecDepth 100000 in
theorem cCt(s:ByteArray)(c:UInt8)(w:World) :
  Calls Tryz.prog 329 #[.string s,.string ⟨#[c]⟩] w fun e w'=>e=.returned (.int .i64 (Lib.countByte s.data.toList c))∧w' = w:=by
 go_enter Tryz.func329,Tryz.ntmps329
 go_wp2
 rw[run_callFunc_extern Tryz.func393 (by kernel_rfl) (by kernel_rfl) (by kernel_rfl) (e:=Extern.BytealgCount.count) (by kernel_rfl),Lib.run_countString]
 simp only[Result.andThen]
 rw[Oper.upon_value]
 go_wp2
 go_ret
 exact⟨rfl,rfl⟩
theorem qTS{F:Nat→Prop}{w:World}{φ:Phi}{v u:V aC.T}{cs:Array Value}(hl:jD F w φ [v,u] cs):∃c d,cs = #[c,d]∧aI aC F w φ v c∧aI aC F w φ u d:=by
 have h1:cs.size=2:=hl.1.symm
 refine⟨cs.getD 0 undef,cs.getD 1 undef,?_,hl.2 0 (by simp),hl.2 1 (by simp)⟩
 apply Array.ext
 ·simpa using h1
 ·intro i h2 h3
  have h4:i<2:=by simpa using h3
  match i,h4 with
  | 0,_=>simp[h1]
  | 1,_=>simp[h1]
def zNQ:TB:=fun args h=>match args with | [.d (.str s),.d (.int .u8 c)]=>(.ret (.d (.int .i64 (Lib.indexByte s c.toNat.toUInt8)),h)) | _=>.bad
def zNR:TB:=fun args h=>match args with | [.d (.str s),.d (.str [c])]=>(.ret (.d (.int .i64 (Lib.countByte s c)),h)) | _=>.bad
theorem zQk:aJ 432 zNQ:=by
 intro args h Q hq
 unfold zNQ at hq
 split at hq
 ·rename_i s c
  refine⟨there 432 (by kernel_rfl),fun N F φ w cargs _ hH hl=>?_⟩
  obtain⟨x,y,rfl,hx,hy⟩:=qTS hl
  rw[hx.iP,hy.dE]
  refine(cIx _ c w).mono fun e w' ⟨he,hw⟩=>?_
  subst hw
  exact⟨_,he,Res.pure hH hq (.d _ _ (.int _ _))⟩
 ·exact hq.elim
theorem zQl:aJ 329 zNR:=by
 intro args h Q hq
 unfold zNR at hq
 split at hq
 ·rename_i s c
  refine⟨there 329 (by kernel_rfl),fun N F φ w cargs _ hH hl=>?_⟩
  obtain⟨x,y,rfl,hx,hy⟩:=qTS hl
  rw[hx.iP,hy.iP]
  refine(cCt _ c w).mono fun e w' ⟨he,hw⟩=>?_
  subst hw
  exact⟨_,he,Res.pure hH hq (.d _ _ (.int _ _))⟩
 ·exact hq.elim
end Go.Proofs.YtlmkakccmpncjaaGreatDoor
namespace Go.Proofs.YtlmkakccmpncjaaGreatDoor
open Go Go.W Go.Proofs
set_option maxRecDepth 100000
def zPw:List (Nat×Option (List Kd)):=[(11,none),(12,none),(21,none),(22,none),(23,none),(24,none),(25,none),(26,none),(27,none),(28,none),(29,none),(30,none),(31,none),(58,none),(60,none),(77,none),(78,none),(79,none),(80,none),(81,none),(82,none),(83,none),(84,none),(85,none),(86,none),(87,none),(88,none),(89,none),(90,none),(91,none),(92,none),(93,none),(94,none),(95,none),(96,none),(97,none),(98,none),(99,none),(100,none),(101,none),(142,none),(148,none),(149,none),(150,none),(155,none),(188,none),(189,none),(190,none),(191,none),(192,none),(193,none),(194,none),(195,none),(196,none),(197,none),(198,none),(216,none),(217,none),(223,none),(229,none),(253,none),(254,none),(255,none),(256,none),(257,none),(258,none),(259,none),(279,none),(307,none),(308,none),(309,none),(310,none),(328,none),(330,none),(370,none),(391,none),(392,none),(394,none),(431,none),(434,none),(435,none),(470,none)]
def zPx:FuncId→List VK→Option (Option (List Kd)):=zHz zPw []
def zQm:List (Nat×(Nat→St aC.T→Option (List Ld))):=[]
def zQn:List (Nat×(Nat→St aC.T→Option (List Ld))):=[]
def zQo(f:FuncId)(id:Nat)(st:St aC.T):Option (List Ld):=match bV zQm f with | some L=>L id st | none=>none
def zQp(f:FuncId)(id:Nat)(st:St aC.T):Option (List Ld):=match bV zQn f with | some L=>L id st | none=>none
def zPy(C:Con aC.T)(cj:FuncId→Option CJK):Nat→ExR aC.T:=exN (hdT aC Tryz.prog C (fun _=>false) 1000 5) cj zPx zQo zQp 16
theorem zKV{C:Con aC.T}{cj:FuncId→Option CJK}(h:qBk C cj):qEI (zPy C cj):=qWI (bU mixed hno h.1 _ _ _) (qPX h)
def zNS:T3:=[(8,qPZ,none),(13,qZ9,none),(432,zNQ,none),(329,zNR,none)]
theorem zKW:qDS zNS:=aZ qZ7 mW (aZ zK9 mW (aZ zQk mW (aZ zQl mW (uH))))
def zPz:Con aC.T:=qEJ zNS (fun _=>none)
def zP0:FuncId→Option CJK:=cj3 zNS (fun _=>none)
theorem zKX:qBk zPz zP0:=nO zKW qL2
def qO0:=uX (zPy zPz zP0) noL noL 4 [] [.bool]
def qBo  : Bool:=(qO0 (())).isSome
def qDM  : Bool×Unit:=(qO0 (())).getD (false,())
def qO1:TB:=eD aC [] [.bool] (fun a=>qBo ) (fun a=>qDM )
theorem zC8:aJ 4 qO1:=rXb (zKV zKX) (by kernel_rfl) rfl rfl fun _=>rfl
end Go.Proofs.YtlmkakccmpncjaaGreatDoor
namespace Go.Proofs.YtlmkakccmpncjaaGreatDoor
open Go Go.W Go.Proofs
open Go.W.DT (ret need br both bad loop join)
set_option maxRecDepth 100000
def zC9  : DT (Bool×Unit) :=
 let +zeta f:=111;let +zeta d:=10000;let +zeta c:=0;let +zeta b:=Ip.mk 99 c c c [] dNd dAp [] [] dPn;let +zeta a:=Se.mk (Cf.mk [[]] [Qu.mk [114,f,f,116] [Cp.mk d d] d]) [] [] [] [] [] c c c;let +zeta e:=sN a b;need (uC a b) (br (e.2.1.err==3) (need (qA1 a e.1) (ret ((qDK a e.1).1,()))) (ret (false,())))

theorem zCA  {r:(Bool×Unit)} (h:(zC9 ).G r):qBo  = true∧qDM  = r:=bP (wX (())) (by kernel_rfl) h
end Go.Proofs.YtlmkakccmpncjaaGreatDoor
