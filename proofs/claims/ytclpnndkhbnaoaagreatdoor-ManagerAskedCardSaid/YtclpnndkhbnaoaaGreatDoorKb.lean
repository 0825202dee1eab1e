/- Part of the proof: texts Kx Kn Kt1. No conditions. -/
import Derived.Test.YtclpnndkhbnaoaaGreatDoorKa
import Derived.WalkKit
import Derived.Lib.Walk
import Derived.Lib.Bytealg
set_option linter.all false
noncomputable section
namespace Go.Proofs.YtclpnndkhbnaoaaGreatDoor
open Go Go.W Go.Proofs Go.RowKit
set_option maxHeartbeats 1000000 in
set_option maxRecDepth 100000 in
theorem cIx(s:ByteArray)(c:Int)(w:World) :
  Calls Tryz.prog 305 #[.string s,.int .u8 c] w fun e w'=>e=.returned (.int .i64 (Lib.indexByte s.data.toList c.toNat.toUInt8))∧w' = w:=by
 go_enter Tryz.func305,Tryz.ntmps305
 go_wp2
 rw[run_callFunc_extern Tryz.func339 (by kernel_rfl) (by kernel_rfl) (by kernel_rfl) (e:=Extern.BytealgIndexByte.indexByte) (by kernel_rfl),Lib.run_indexByteString]
 simp only[Result.andThen]
 rw[Oper.upon_value]
 go_wp2
 go_ret
 exact⟨rfl,rfl⟩
set_option maxHeartbeats 1000000 in
set_option maxRecDepth 100000 in
theorem cCt(s:ByteArray)(c:UInt8)(w:World) :
  Calls Tryz.prog 222 #[.string s,.string ⟨#[c]⟩] w fun e w'=>e=.returned (.int .i64 (Lib.countByte s.data.toList c))∧w' = w:=by
 go_enter Tryz.func222,Tryz.ntmps222
 go_wp2
 rw[run_callFunc_extern Tryz.func269 (by kernel_rfl) (by kernel_rfl) (by kernel_rfl) (e:=Extern.BytealgCount.count) (by kernel_rfl),Lib.run_countString]
 simp only[Result.andThen]
 rw[Oper.upon_value]
 go_wp2
 go_ret
 exact⟨rfl,rfl⟩
theorem qFi{F:Nat→Prop}{w:World}{φ:Phi}{v u:V aC.T}{cs:Array Value}(hl:eF F w φ [v,u] cs):∃c d,cs = #[c,d]∧aA aC F w φ v c∧aA aC F w φ u d:=by
 have h1:cs.size=2:=hl.1.symm
 refine⟨cs.getD 0 undef,cs.getD 1 undef,?_,hl.2 0 (by simp),hl.2 1 (by simp)⟩
 apply qx
 ·simpa using h1
 ·intro i h2 h3
  have h4:i<2:=by simpa using h3
  match i,h4 with
  | 0,_=>simp[h1]
  | 1,_=>simp[h1]
def qPZ:TB:=fun args h=>match args with | [.d (.str s),.d (.int .u8 c)]=>(.ret (.d (.int .i64 (Lib.indexByte s c.toNat.toUInt8)),h)) | _=>.bad
def qQa:TB:=fun args h=>match args with | [.d (.str s),.d (.str [c])]=>(.ret (.d (.int .i64 (Lib.countByte s c)),h)) | _=>.bad
theorem qSL:aN 305 qPZ:=by
 intro args h Q hq
 unfold qPZ at hq
 split at hq
 ·rename_i s c
  refine⟨there 305 (by kernel_rfl),fun N F φ w cargs _ hH hl=>?_⟩
  obtain⟨x,y,rfl,hx,hy⟩:=qFi hl
  rw[hx.dR,hy.aW]
  refine(cIx _ c w).mono fun e w' ⟨he,hw⟩=>?_
  subst hw
  exact⟨_,he,Res.pure hH hq (.d _ _ (.int _ _))⟩
 ·exact hq.elim
theorem qSM:aN 222 qQa:=by
 intro args h Q hq
 unfold qQa at hq
 split at hq
 ·rename_i s c
  refine⟨there 222 (by kernel_rfl),fun N F φ w cargs _ hH hl=>?_⟩
  obtain⟨x,y,rfl,hx,hy⟩:=qFi hl
  rw[hx.dR,hy.dR]
  refine(cCt _ c w).mono fun e w' ⟨he,hw⟩=>?_
  subst hw
  exact⟨_,he,Res.pure hH hq (.d _ _ (.int _ _))⟩
 ·exact hq.elim
end Go.Proofs.YtclpnndkhbnaoaaGreatDoor
namespace Go.Proofs.YtclpnndkhbnaoaaGreatDoor
open Go Go.W Go.Proofs
set_option maxRecDepth 100000
def qR0:List (Nat×Option (List Kd)):=[(6,none),(11,none),(21,none),(22,none),(23,none),(24,none),(25,none),(26,none),(27,none),(28,none),(29,none),(30,none),(31,none),(33,none),(35,none),(58,none),(59,none),(60,none),(61,none),(62,none),(63,none),(64,none),(65,none),(66,none),(67,none),(68,none),(69,none),(70,none),(71,none),(72,none),(73,none),(74,none),(75,none),(76,none),(77,none),(78,none),(79,none),(80,none),(81,none),(82,none),(85,none),(91,none),(92,none),(93,none),(98,none),(131,none),(132,none),(133,none),(134,none),(135,none),(136,none),(137,none),(138,none),(139,none),(140,none),(141,none),(142,none),(143,none),(149,none),(155,none),(179,none),(180,none),(181,none),(182,none),(183,none),(184,none),(185,none),(187,none),(215,none),(216,none),(217,none),(218,none),(221,none),(223,none),(263,none),(267,none),(268,none),(270,none),(304,none),(307,none),(308,none),(340,none)]
def qR1:FuncId→List VK→Option (Option (List Kd)):=qBB qR0 []
def qSN:List (Nat×(Nat→St aC.T→Option (List Ld))):=[]
def qSO:List (Nat×(Nat→St aC.T→Option (List Ld))):=[]
def qSP(f:FuncId)(id:Nat)(st:St aC.T):Option (List Ld):=match aQ qSN f with | some L=>L id st | none=>none
def qSQ(f:FuncId)(id:Nat)(st:St aC.T):Option (List Ld):=match aQ qSO f with | some L=>L id st | none=>none
def qR2(C:Con aC.T)(cj:FuncId→Option CJK):Nat→ExR aC.T:=exN (hdT aC Tryz.prog C (fun _=>false) 1000 5) cj qR1 qSP qSQ 16
theorem qNz{C:Con aC.T}{cj:FuncId→Option CJK}(h:jL C cj):oJ (qR2 C cj):=vQ (iJ mixed hno h.1 _ _ _) (qF h)
def qQb:T3:=[(8,qHL,none),(10,qDE,none),(305,qPZ,none),(222,qQa,none)]
theorem qN0:oK qQb:=aD qNl aY (aD qHN aY (aD qSL aY (aD qSM aY (gQ))))
def qR3:Con aC.T:=qE qQb (fun _=>none)
def qR4:FuncId→Option CJK:=cj3 qQb (fun _=>none)
theorem qN1:jL qR3 qR4:=eO qN0 lZ
def qCS:=uX (qR2 qR3 qR4) noL noL 4 [] [.bool]
def qM  : Bool:=(qCS (())).isSome
def uC  : Bool×Unit:=(qCS (())).getD (false,())
def qCT:TB:=lT aC [] [.bool] (fun a=>qM ) (fun a=>uC )
theorem qJl:aN 4 qCT:=rXb (qNz qN1) (by kernel_rfl) rfl rfl fun _=>rfl
end Go.Proofs.YtclpnndkhbnaoaaGreatDoor
namespace Go.Proofs.YtclpnndkhbnaoaaGreatDoor
open Go Go.W Go.Proofs
open Go.W.DT (ret need br both bad loop join)
set_option maxRecDepth 100000
def qJm  : DT (Bool×Unit) :=
 let +zeta f:=111;let +zeta d:=10000;let +zeta c:=0;let +zeta b:=Ip.mk 99 c c c [] dNd dAp [] [] dPn;let +zeta a:=Se.mk (Cf.mk [[]] [Qu.mk [114,f,f,116] [Cp.mk d d] d]) [] [] [] [] [] c c c;let +zeta e:=qL a b;need (sH a b) (br (e.2.1.err==3) (need (kC a e.1) (ret ((mZ a e.1).1,()))) (ret (false,())))

theorem qJn  {r:(Bool×Unit)} (h:(qJm ).G r):qM  = true∧uC  = r:=jK (wX (())) (by kernel_rfl) h
end Go.Proofs.YtclpnndkhbnaoaaGreatDoor
