/- Part of the proof: texts Ra Ml Rb. No conditions. -/
import Derived.Test.YtlmkakccmpncjaaGreatDoorVg
import Derived.Test.YtlmkakccmpncjaaGreatDoorProg
set_option linter.all false
noncomputable section
namespace Go.Proofs.YtlmkakccmpncjaaGreatDoor
open Sum
open Go Go.W Go.Proofs
set_option maxRecDepth 100000
abbrev B:=List UInt8
structure Vec where
 mem:Int
 cores:Int
 deriving DecidableEq
structure Cp where
 least:Int
 most:Int
 deriving DecidableEq
structure Qu where
 path:B
 caps:List Cp
 user:Int
 deriving DecidableEq
structure Cf where
 labels:List B
 queues:List Qu
 deriving DecidableEq
structure Nd where
 id:Int
 label:Int
 rack:Int
 cap:Vec
 seen:Int
 beat:Int
 up:Bool
 deriving DecidableEq
structure Ak where
 prio:Int
 label:Int
 size:Vec
 count:Int
 node:Int
 rack:Int
 missed:Int
 deriving DecidableEq
structure Ap where
 id:Int
 state:Int
 queue:B
 user:Int
 prio:Int
 master:Vec
 asks:List Ak
 seen:Int
 beat:Int
 grants:List Int
 kills:List Int
 told:List Int
 lost:List Int
 deriving DecidableEq
structure Ct where
 id:Int
 app:Int
 node:Int
 size:Vec
 prio:Int
 label:Int
 master:Bool
 notice:Int
 deriving DecidableEq
structure Sl where
 node:Int
 app:Int
 prio:Int
 deriving DecidableEq
structure Pn where
 id:Int
 label:Int
 start:Int
 stop:Int
 need:Vec
 deriving DecidableEq
structure Se where
 conf:Cf
 nodes:List Nd
 apps:List Ap
 conts:List Ct
 slots:List Sl
 plans:List Pn
 now:Int
 epoch:Int
 seq:Int
 deriving DecidableEq
structure Ip where
 kind:Int
 id:Int
 beat:Int
 n:Int
 text:B
 node:Nd
 app:Ap
 asks:List Ak
 ids:List Int
 plan:Pn
 deriving DecidableEq
structure Ou where
 err:Int
 conts:List Ct
 ids:List Int
 gone:List Int
 n:Int
 deriving DecidableEq
structure Sh where
 path:B
 mem:Int
 deriving DecidableEq
structure Fr where
 a:Int
 p:Int
 deriving DecidableEq
structure Si where
 path:B
 mem:Int
 deriving DecidableEq
structure Lo where
 path:B
 used:Vec
 least:Vec
 deriving DecidableEq
structure Act where
 kind:Int
 a:Int
 b:Int
 c:Int
 d:Int
 deriving DecidableEq
structure Scr where
 shape:Int
 ns:List Int
 acts:List Act
 deriving DecidableEq
def gQ:Vec:=⟨0,0⟩
def dCp:Cp:=⟨0,0⟩
def dQu:Qu:=⟨[],[],0⟩
def dCf:Cf:=⟨[],[]⟩
def dNd:Nd:=⟨0,0,0,gQ,0,0,false⟩
def dAk:Ak:=⟨0,0,gQ,0,0,0,0⟩
def dAp:Ap:=⟨0,0,[],0,0,gQ,[],0,0,[],[],[],[]⟩
def dCt:Ct:=⟨0,0,0,gQ,0,0,false,0⟩
def dSl:Sl:=⟨0,0,0⟩
def dPn:Pn:=⟨0,0,0,0,gQ⟩
def dSe:Se:=⟨dCf,[],[],[],[],[],0,0,0⟩
def dIp:Ip:=⟨0,0,0,0,[],dNd,dAp,[],[],dPn⟩
def dOu:Ou:=⟨0,[],[],[],0⟩
def dSh:Sh:=⟨[],0⟩
def dFr:Fr:=⟨0,0⟩
def dSi:Si:=⟨[],0⟩
def dLo:Lo:=⟨[],gQ,gQ⟩
def zDJ:Act:=⟨0,0,0,0,0⟩
def zPX:Scr:=⟨0,[],[]⟩
structure zPY where
 T:Type
 dflt:T
 has:Bool
def zMo:Nat→zPY
 | 3=>⟨Int,0,true⟩
 | 5=>⟨Int,0,true⟩
 | 9=>⟨B,[],true⟩
 | 40=>⟨Vec,gQ,true⟩
 | 76=>⟨Cp,dCp,true⟩
 | 79=>⟨Qu,dQu,true⟩
 | 30=>⟨Cf,dCf,true⟩
 | 53=>⟨Nd,dNd,true⟩
 | 131=>⟨Ak,dAk,true⟩
 | 43=>⟨Ap,dAp,true⟩
 | 46=>⟨Ct,dCt,true⟩
 | 91=>⟨Sl,dSl,true⟩
 | 55=>⟨Pn,dPn,true⟩
 | 37=>⟨Se,dSe,true⟩
 | 57=>⟨Ip,dIp,true⟩
 | 49=>⟨Ou,dOu,true⟩
 | 279=>⟨Sh,dSh,true⟩
 | 461=>⟨Fr,dFr,true⟩
 | 345=>⟨Si,dSi,true⟩
 | 438=>⟨Lo,dLo,true⟩
 | 67=>⟨Act,zDJ,true⟩
 | 25=>⟨Scr,zPX,true⟩
 | _=>⟨Unit,(),false⟩
def TK(e:Nat):Type:=(zMo e).T
def asI:D TK→Option Int
 | .int .i64 x=>some x
 | _=>none
def asB:D TK→Option Bool
 | .bool x=>some x
 | _=>none
def asS:D TK→Option B
 | .str x=>some x
 | _=>none
def asL(e:Nat):D TK→Option (List (TK e))
 | .sl e' xs=>qBx xs e
 | .nils=>some []
 | _=>none
theorem aR{d:D TK}{x:Int}(h:asI d=some x):DLe d (.int .i64 x):=by
 unfold asI at h
 split at h
 ·cases h;exact .inl rfl
 ·cases h
theorem qUO{d:D TK}{x:Bool}(h:asB d=some x):DLe d (.bool x):=by
 unfold asB at h
 split at h
 ·cases h;exact .inl rfl
 ·cases h
theorem qBL{d:D TK}{x:B}(h:asS d=some x):DLe d (.str x):=by
 unfold asS at h
 split at h
 ·cases h;exact .inl rfl
 ·cases h
theorem fM{e:Nat}{d:D TK}{x:List (TK e)}(h:asL e d=some x):DLe d (.sl e x):=by
 unfold asL at h
 split at h
 ·exact .inl (qBE h).1.symm
 ·cases h;exact .inr ⟨rfl,.inl ⟨e,rfl⟩⟩
 ·cases h
def DLs(l m:List (D TK)):Prop:=m.length=l.length∧∀j,DLe (l.getD j .nilp) (m.getD j .nilp)
theorem iK:DLs [] []:=⟨rfl,fun _=>.inl rfl⟩
theorem aG{x y:D TK}{l m:List (D TK)}(h:DLe x y)(hl:DLs l m):DLs (x::l) (y::m) :=
 ⟨by simp[hl.1],fun j=>by cases j with | zero=>exact h | succ j=>simpa using hl.2 j⟩
def qUP(x:Int):List (D TK):=[.int .i64 x]
def zDK(x:Int):List (D TK):=[.int .u8 x]
def encStr(x:B):List (D TK):=[.str x]
def qUQ:List (D TK)→Option Int
 | [d]=>asI d
 | _=>none
def zDL:List (D TK)→Option Int
 | [.int .u8 n]=>some n
 | _=>none
def qUR:List (D TK)→Option B
 | [d]=>asS d
 | _=>none
theorem zMp(l:List (D TK))(x:Int)(h:qUQ l=some x):DLs l (qUP x):=by
 unfold qUQ at h
 split at h
 ·exact aG (aR h) iK
 ·cases h
theorem zMq(l:List (D TK))(x:B)(h:qUR l=some x):DLs l (encStr x):=by
 unfold qUR at h
 split at h
 ·exact aG (qBL h) iK
 ·cases h
theorem zO4(l:List (D TK))(x:Int)(h:zDL l=some x):DLs l (zDK x):=by
 unfold zDL at h
 split at h
 ·cases h;exact aG (.inl rfl) iK
 ·cases h
def up(s:B):List Int:=s.map fun c=>(c.toNat:Int)
def dn(xs:List Int):B:=xs.map fun n=>UInt8.ofNat n.toNat
theorem zMr(s:B):(up s).length=s.length:=by simp[up]
theorem zMs(xs:List Int):(dn xs).length=xs.length:=by simp[dn]
theorem zMt{xs:List Int}{r:Nat}(h:r<xs.length):(dn xs).getD r 0=UInt8.ofNat (xs.getD r 0).toNat:=by
 simp[dn,List.getD,h]
theorem zMu(s:B)(r:Nat):(up s).getD r 0=((s.getD r 0).toNat:Int):=by
 rcases iw r s.length with h | h
 ·simp[up,List.getD,h]
 ·simp[up,List.getD,h]
def qUS(x:Vec):List (D TK):=[.int .i64 x.mem,.int .i64 x.cores]
def qUT:List (D TK)→Option Vec
 | y0::y1::[]=>(asI y0).bind fun x0=>(asI y1).bind fun x1=>some ⟨x0,x1⟩
 | _=>none
theorem zMv(l:List (D TK))(x:Vec)(h:qUT l=some x):DLs l (qUS x):=by
 unfold qUT at h
 split at h
 ·simp only[gm] at h
  obtain⟨x0,hx0,x1,hx1,h⟩:=h
  cases h
  exact aG (aR hx0) (aG (aR hx1) (iK))
 ·cases h
def zDM(x:Cp):List (D TK):=[.int .i64 x.least,.int .i64 x.most]
def zDN:List (D TK)→Option Cp
 | y0::y1::[]=>(asI y0).bind fun x0=>(asI y1).bind fun x1=>some ⟨x0,x1⟩
 | _=>none
theorem zO5(l:List (D TK))(x:Cp)(h:zDN l=some x):DLs l (zDM x):=by
 unfold zDN at h
 split at h
 ·simp only[gm] at h
  obtain⟨x0,hx0,x1,hx1,h⟩:=h
  cases h
  exact aG (aR hx0) (aG (aR hx1) (iK))
 ·cases h
def zDO(x:Qu):List (D TK):=[.str x.path,.sl 76 x.caps,.int .i64 x.user]
def zDP:List (D TK)→Option Qu
 | y0::y1::y2::[]=>(asS y0).bind fun x0=>(asL 76 y1).bind fun x1=>(asI y2).bind fun x2=>some ⟨x0,x1,x2⟩
 | _=>none
theorem zO6(l:List (D TK))(x:Qu)(h:zDP l=some x):DLs l (zDO x):=by
 unfold zDP at h
 split at h
 ·simp only[gm] at h
  obtain⟨x0,hx0,x1,hx1,x2,hx2,h⟩:=h
  cases h
  exact aG (qBL hx0) (aG (fM hx1) (aG (aR hx2) (iK)))
 ·cases h
def zDQ(x:Cf):List (D TK):=[.sl 9 x.labels,.sl 79 x.queues]
def zDR:List (D TK)→Option Cf
 | y0::y1::[]=>(asL 9 y0).bind fun x0=>(asL 79 y1).bind fun x1=>some ⟨x0,x1⟩
 | _=>none
theorem zO7(l:List (D TK))(x:Cf)(h:zDR l=some x):DLs l (zDQ x):=by
 unfold zDR at h
 split at h
 ·simp only[gm] at h
  obtain⟨x0,hx0,x1,hx1,h⟩:=h
  cases h
  exact aG (fM hx0) (aG (fM hx1) (iK))
 ·cases h
def zDS(x:Nd):List (D TK):=[.int .i64 x.id,.int .i64 x.label,.int .i64 x.rack,.int .i64 x.cap.mem,.int .i64 x.cap.cores,.int .i64 x.seen,.int .i64 x.beat,.bool x.up]
def zDT:List (D TK)→Option Nd
 | y0::y1::y2::y3::y4::y5::y6::y7::[]=>(asI y0).bind fun x0=>(asI y1).bind fun x1=>(asI y2).bind fun x2=>(asI y3).bind fun x3=>(asI y4).bind fun x4=>(asI y5).bind fun x5=>(asI y6).bind fun x6=>(asB y7).bind fun x7=>some ⟨x0,x1,x2,⟨x3,x4⟩,x5,x6,x7⟩
 | _=>none
theorem zO8(l:List (D TK))(x:Nd)(h:zDT l=some x):DLs l (zDS x):=by
 unfold zDT at h
 split at h
 ·simp only[gm] at h
  obtain⟨x0,hx0,x1,hx1,x2,hx2,x3,hx3,x4,hx4,x5,hx5,x6,hx6,x7,hx7,h⟩:=h
  cases h
  exact aG (aR hx0) (aG (aR hx1) (aG (aR hx2) (aG (aR hx3) (aG (aR hx4) (aG (aR hx5) (aG (aR hx6) (aG (qUO hx7) (iK))))))))
 ·cases h
def zDU(x:Ak):List (D TK):=[.int .i64 x.prio,.int .i64 x.label,.int .i64 x.size.mem,.int .i64 x.size.cores,.int .i64 x.count,.int .i64 x.node,.int .i64 x.rack,.int .i64 x.missed]
def zDV:List (D TK)→Option Ak
 | y0::y1::y2::y3::y4::y5::y6::y7::[]=>(asI y0).bind fun x0=>(asI y1).bind fun x1=>(asI y2).bind fun x2=>(asI y3).bind fun x3=>(asI y4).bind fun x4=>(asI y5).bind fun x5=>(asI y6).bind fun x6=>(asI y7).bind fun x7=>some ⟨x0,x1,⟨x2,x3⟩,x4,x5,x6,x7⟩
 | _=>none
theorem zO9(l:List (D TK))(x:Ak)(h:zDV l=some x):DLs l (zDU x):=by
 unfold zDV at h
 split at h
 ·simp only[gm] at h
  obtain⟨x0,hx0,x1,hx1,x2,hx2,x3,hx3,x4,hx4,x5,hx5,x6,hx6,x7,hx7,h⟩:=h
  cases h
  exact aG (aR hx0) (aG (aR hx1) (aG (aR hx2) (aG (aR hx3) (aG (aR hx4) (aG (aR hx5) (aG (aR hx6) (aG (aR hx7) (iK))))))))
 ·cases h
def zDW(x:Ap):List (D TK):=[.int .i64 x.id,.int .i64 x.state,.str x.queue,.int .i64 x.user,.int .i64 x.prio,.int .i64 x.master.mem,.int .i64 x.master.cores,.sl 131 x.asks,.int .i64 x.seen,.int .i64 x.beat,.sl 3 x.grants,.sl 3 x.kills,.sl 3 x.told,.sl 3 x.lost]
def zDX:List (D TK)→Option Ap
 | y0::y1::y2::y3::y4::y5::y6::y7::y8::y9::y10::y11::y12::y13::[]=>(asI y0).bind fun x0=>(asI y1).bind fun x1=>(asS y2).bind fun x2=>(asI y3).bind fun x3=>(asI y4).bind fun x4=>(asI y5).bind fun x5=>(asI y6).bind fun x6=>(asL 131 y7).bind fun x7=>(asI y8).bind fun x8=>(asI y9).bind fun x9=>(asL 3 y10).bind fun x10=>(asL 3 y11).bind fun x11=>(asL 3 y12).bind fun x12=>(asL 3 y13).bind fun x13=>some ⟨x0,x1,x2,x3,x4,⟨x5,x6⟩,x7,x8,x9,x10,x11,x12,x13⟩
 | _=>none
theorem zOA(l:List (D TK))(x:Ap)(h:zDX l=some x):DLs l (zDW x):=by
 unfold zDX at h
 split at h
 ·simp only[gm] at h
  obtain⟨x0,hx0,x1,hx1,x2,hx2,x3,hx3,x4,hx4,x5,hx5,x6,hx6,x7,hx7,x8,hx8,x9,hx9,x10,hx10,x11,hx11,x12,hx12,x13,hx13,h⟩:=h
  cases h
  exact aG (aR hx0) (aG (aR hx1) (aG (qBL hx2) (aG (aR hx3) (aG (aR hx4) (aG (aR hx5) (aG (aR hx6) (aG (fM hx7) (aG (aR hx8) (aG (aR hx9) (aG (fM hx10) (aG (fM hx11) (aG (fM hx12) (aG (fM hx13) (iK))))))))))))))
 ·cases h
def zDY(x:Ct):List (D TK):=[.int .i64 x.id,.int .i64 x.app,.int .i64 x.node,.int .i64 x.size.mem,.int .i64 x.size.cores,.int .i64 x.prio,.int .i64 x.label,.bool x.master,.int .i64 x.notice]
def zDZ:List (D TK)→Option Ct
 | y0::y1::y2::y3::y4::y5::y6::y7::y8::[]=>(asI y0).bind fun x0=>(asI y1).bind fun x1=>(asI y2).bind fun x2=>(asI y3).bind fun x3=>(asI y4).bind fun x4=>(asI y5).bind fun x5=>(asI y6).bind fun x6=>(asB y7).bind fun x7=>(asI y8).bind fun x8=>some ⟨x0,x1,x2,⟨x3,x4⟩,x5,x6,x7,x8⟩
 | _=>none
theorem zOB(l:List (D TK))(x:Ct)(h:zDZ l=some x):DLs l (zDY x):=by
 unfold zDZ at h
 split at h
 ·simp only[gm] at h
  obtain⟨x0,hx0,x1,hx1,x2,hx2,x3,hx3,x4,hx4,x5,hx5,x6,hx6,x7,hx7,x8,hx8,h⟩:=h
  cases h
  exact aG (aR hx0) (aG (aR hx1) (aG (aR hx2) (aG (aR hx3) (aG (aR hx4) (aG (aR hx5) (aG (aR hx6) (aG (qUO hx7) (aG (aR hx8) (iK)))))))))
 ·cases h
def zEa(x:Sl):List (D TK):=[.int .i64 x.node,.int .i64 x.app,.int .i64 x.prio]
def zEb:List (D TK)→Option Sl
 | y0::y1::y2::[]=>(asI y0).bind fun x0=>(asI y1).bind fun x1=>(asI y2).bind fun x2=>some ⟨x0,x1,x2⟩
 | _=>none
theorem zOC(l:List (D TK))(x:Sl)(h:zEb l=some x):DLs l (zEa x):=by
 unfold zEb at h
 split at h
 ·simp only[gm] at h
  obtain⟨x0,hx0,x1,hx1,x2,hx2,h⟩:=h
  cases h
  exact aG (aR hx0) (aG (aR hx1) (aG (aR hx2) (iK)))
 ·cases h
def zEc(x:Pn):List (D TK):=[.int .i64 x.id,.int .i64 x.label,.int .i64 x.start,.int .i64 x.stop,.int .i64 x.need.mem,.int .i64 x.need.cores]
def zEd:List (D TK)→Option Pn
 | y0::y1::y2::y3::y4::y5::[]=>(asI y0).bind fun x0=>(asI y1).bind fun x1=>(asI y2).bind fun x2=>(asI y3).bind fun x3=>(asI y4).bind fun x4=>(asI y5).bind fun x5=>some ⟨x0,x1,x2,x3,⟨x4,x5⟩⟩
 | _=>none
theorem zOD(l:List (D TK))(x:Pn)(h:zEd l=some x):DLs l (zEc x):=by
 unfold zEd at h
 split at h
 ·simp only[gm] at h
  obtain⟨x0,hx0,x1,hx1,x2,hx2,x3,hx3,x4,hx4,x5,hx5,h⟩:=h
  cases h
  exact aG (aR hx0) (aG (aR hx1) (aG (aR hx2) (aG (aR hx3) (aG (aR hx4) (aG (aR hx5) (iK))))))
 ·cases h
def zEe(x:Se):List (D TK):=[.sl 9 x.conf.labels,.sl 79 x.conf.queues,.sl 53 x.nodes,.sl 43 x.apps,.sl 46 x.conts,.sl 91 x.slots,.sl 55 x.plans,.int .i64 x.now,.int .i64 x.epoch,.int .i64 x.seq]
def zEf:List (D TK)→Option Se
 | y0::y1::y2::y3::y4::y5::y6::y7::y8::y9::[]=>(asL 9 y0).bind fun x0=>(asL 79 y1).bind fun x1=>(asL 53 y2).bind fun x2=>(asL 43 y3).bind fun x3=>(asL 46 y4).bind fun x4=>(asL 91 y5).bind fun x5=>(asL 55 y6).bind fun x6=>(asI y7).bind fun x7=>(asI y8).bind fun x8=>(asI y9).bind fun x9=>some ⟨⟨x0,x1⟩,x2,x3,x4,x5,x6,x7,x8,x9⟩
 | _=>none
theorem zOE(l:List (D TK))(x:Se)(h:zEf l=some x):DLs l (zEe x):=by
 unfold zEf at h
 split at h
 ·simp only[gm] at h
  obtain⟨x0,hx0,x1,hx1,x2,hx2,x3,hx3,x4,hx4,x5,hx5,x6,hx6,x7,hx7,x8,hx8,x9,hx9,h⟩:=h
  cases h
  exact aG (fM hx0) (aG (fM hx1) (aG (fM hx2) (aG (fM hx3) (aG (fM hx4) (aG (fM hx5) (aG (fM hx6) (aG (aR hx7) (aG (aR hx8) (aG (aR hx9) (iK))))))))))
 ·cases h
def zEg(x:Ip):List (D TK):=[.int .i64 x.kind,.int .i64 x.id,.int .i64 x.beat,.int .i64 x.n,.str x.text,.int .i64 x.node.id,.int .i64 x.node.label,.int .i64 x.node.rack,.int .i64 x.node.cap.mem,.int .i64 x.node.cap.cores,.int .i64 x.node.seen,.int .i64 x.node.beat,.bool x.node.up,.int .i64 x.app.id,.int .i64 x.app.state,.str x.app.queue,.int .i64 x.app.user,.int .i64 x.app.prio,.int .i64 x.app.master.mem,.int .i64 x.app.master.cores,.sl 131 x.app.asks,.int .i64 x.app.seen,.int .i64 x.app.beat,.sl 3 x.app.grants,.sl 3 x.app.kills,.sl 3 x.app.told,.sl 3 x.app.lost,.sl 131 x.asks,.sl 3 x.ids,.int .i64 x.plan.id,.int .i64 x.plan.label,.int .i64 x.plan.start,.int .i64 x.plan.stop,.int .i64 x.plan.need.mem,.int .i64 x.plan.need.cores]
def zEh:List (D TK)→Option Ip
 | y0::y1::y2::y3::y4::y5::y6::y7::y8::y9::y10::y11::y12::y13::y14::y15::y16::y17::y18::y19::y20::y21::y22::y23::y24::y25::y26::y27::y28::y29::y30::y31::y32::y33::y34::[]=>(asI y0).bind fun x0=>(asI y1).bind fun x1=>(asI y2).bind fun x2=>(asI y3).bind fun x3=>(asS y4).bind fun x4=>(asI y5).bind fun x5=>(asI y6).bind fun x6=>(asI y7).bind fun x7=>(asI y8).bind fun x8=>(asI y9).bind fun x9=>(asI y10).bind fun x10=>(asI y11).bind fun x11=>(asB y12).bind fun x12=>(asI y13).bind fun x13=>(asI y14).bind fun x14=>(asS y15).bind fun x15=>(asI y16).bind fun x16=>(asI y17).bind fun x17=>(asI y18).bind fun x18=>(asI y19).bind fun x19=>(asL 131 y20).bind fun x20=>(asI y21).bind fun x21=>(asI y22).bind fun x22=>(asL 3 y23).bind fun x23=>(asL 3 y24).bind fun x24=>(asL 3 y25).bind fun x25=>(asL 3 y26).bind fun x26=>(asL 131 y27).bind fun x27=>(asL 3 y28).bind fun x28=>(asI y29).bind fun x29=>(asI y30).bind fun x30=>(asI y31).bind fun x31=>(asI y32).bind fun x32=>(asI y33).bind fun x33=>(asI y34).bind fun x34=>some ⟨x0,x1,x2,x3,x4,⟨x5,x6,x7,⟨x8,x9⟩,x10,x11,x12⟩,⟨x13,x14,x15,x16,x17,⟨x18,x19⟩,x20,x21,x22,x23,x24,x25,x26⟩,x27,x28,⟨x29,x30,x31,x32,⟨x33,x34⟩⟩⟩
 | _=>none
theorem zOF(l:List (D TK))(x:Ip)(h:zEh l=some x):DLs l (zEg x):=by
 unfold zEh at h
 split at h
 ·simp only[gm] at h
  obtain⟨x0,hx0,x1,hx1,x2,hx2,x3,hx3,x4,hx4,x5,hx5,x6,hx6,x7,hx7,x8,hx8,x9,hx9,x10,hx10,x11,hx11,x12,hx12,x13,hx13,x14,hx14,x15,hx15,x16,hx16,x17,hx17,x18,hx18,x19,hx19,x20,hx20,x21,hx21,x22,hx22,x23,hx23,x24,hx24,x25,hx25,x26,hx26,x27,hx27,x28,hx28,x29,hx29,x30,hx30,x31,hx31,x32,hx32,x33,hx33,x34,hx34,h⟩:=h
  cases h
  exact aG (aR hx0) (aG (aR hx1) (aG (aR hx2) (aG (aR hx3) (aG (qBL hx4) (aG (aR hx5) (aG (aR hx6) (aG (aR hx7) (aG (aR hx8) (aG (aR hx9) (aG (aR hx10) (aG (aR hx11) (aG (qUO hx12) (aG (aR hx13) (aG (aR hx14) (aG (qBL hx15) (aG (aR hx16) (aG (aR hx17) (aG (aR hx18) (aG (aR hx19) (aG (fM hx20) (aG (aR hx21) (aG (aR hx22) (aG (fM hx23) (aG (fM hx24) (aG (fM hx25) (aG (fM hx26) (aG (fM hx27) (aG (fM hx28) (aG (aR hx29) (aG (aR hx30) (aG (aR hx31) (aG (aR hx32) (aG (aR hx33) (aG (aR hx34) (iK)))))))))))))))))))))))))))))))))))
 ·cases h
def zEi(x:Ou):List (D TK):=[.int .i64 x.err,.sl 46 x.conts,.sl 3 x.ids,.sl 3 x.gone,.int .i64 x.n]
def zEj:List (D TK)→Option Ou
 | y0::y1::y2::y3::y4::[]=>(asI y0).bind fun x0=>(asL 46 y1).bind fun x1=>(asL 3 y2).bind fun x2=>(asL 3 y3).bind fun x3=>(asI y4).bind fun x4=>some ⟨x0,x1,x2,x3,x4⟩
 | _=>none
theorem zOG(l:List (D TK))(x:Ou)(h:zEj l=some x):DLs l (zEi x):=by
 unfold zEj at h
 split at h
 ·simp only[gm] at h
  obtain⟨x0,hx0,x1,hx1,x2,hx2,x3,hx3,x4,hx4,h⟩:=h
  cases h
  exact aG (aR hx0) (aG (fM hx1) (aG (fM hx2) (aG (fM hx3) (aG (aR hx4) (iK)))))
 ·cases h
def zEk(x:Sh):List (D TK):=[.str x.path,.int .i64 x.mem]
def zEl:List (D TK)→Option Sh
 | y0::y1::[]=>(asS y0).bind fun x0=>(asI y1).bind fun x1=>some ⟨x0,x1⟩
 | _=>none
theorem zOH(l:List (D TK))(x:Sh)(h:zEl l=some x):DLs l (zEk x):=by
 unfold zEl at h
 split at h
 ·simp only[gm] at h
  obtain⟨x0,hx0,x1,hx1,h⟩:=h
  cases h
  exact aG (qBL hx0) (aG (aR hx1) (iK))
 ·cases h
def zEm(x:Fr):List (D TK):=[.int .i64 x.a,.int .i64 x.p]
def zEn:List (D TK)→Option Fr
 | y0::y1::[]=>(asI y0).bind fun x0=>(asI y1).bind fun x1=>some ⟨x0,x1⟩
 | _=>none
theorem zOI(l:List (D TK))(x:Fr)(h:zEn l=some x):DLs l (zEm x):=by
 unfold zEn at h
 split at h
 ·simp only[gm] at h
  obtain⟨x0,hx0,x1,hx1,h⟩:=h
  cases h
  exact aG (aR hx0) (aG (aR hx1) (iK))
 ·cases h
def zEo(x:Si):List (D TK):=[.str x.path,.int .i64 x.mem]
def zEp:List (D TK)→Option Si
 | y0::y1::[]=>(asS y0).bind fun x0=>(asI y1).bind fun x1=>some ⟨x0,x1⟩
 | _=>none
theorem zOJ(l:List (D TK))(x:Si)(h:zEp l=some x):DLs l (zEo x):=by
 unfold zEp at h
 split at h
 ·simp only[gm] at h
  obtain⟨x0,hx0,x1,hx1,h⟩:=h
  cases h
  exact aG (qBL hx0) (aG (aR hx1) (iK))
 ·cases h
def zEq(x:Lo):List (D TK):=[.str x.path,.int .i64 x.used.mem,.int .i64 x.used.cores,.int .i64 x.least.mem,.int .i64 x.least.cores]
def zEr:List (D TK)→Option Lo
 | y0::y1::y2::y3::y4::[]=>(asS y0).bind fun x0=>(asI y1).bind fun x1=>(asI y2).bind fun x2=>(asI y3).bind fun x3=>(asI y4).bind fun x4=>some ⟨x0,⟨x1,x2⟩,⟨x3,x4⟩⟩
 | _=>none
theorem zOK(l:List (D TK))(x:Lo)(h:zEr l=some x):DLs l (zEq x):=by
 unfold zEr at h
 split at h
 ·simp only[gm] at h
  obtain⟨x0,hx0,x1,hx1,x2,hx2,x3,hx3,x4,hx4,h⟩:=h
  cases h
  exact aG (qBL hx0) (aG (aR hx1) (aG (aR hx2) (aG (aR hx3) (aG (aR hx4) (iK)))))
 ·cases h
def qUU(x:Act):List (D TK):=[.int .i64 x.kind,.int .i64 x.a,.int .i64 x.b,.int .i64 x.c,.int .i64 x.d]
def qUV:List (D TK)→Option Act
 | y0::y1::y2::y3::y4::[]=>(asI y0).bind fun x0=>(asI y1).bind fun x1=>(asI y2).bind fun x2=>(asI y3).bind fun x3=>(asI y4).bind fun x4=>some ⟨x0,x1,x2,x3,x4⟩
 | _=>none
theorem zMw(l:List (D TK))(x:Act)(h:qUV l=some x):DLs l (qUU x):=by
 unfold qUV at h
 split at h
 ·simp only[gm] at h
  obtain⟨x0,hx0,x1,hx1,x2,hx2,x3,hx3,x4,hx4,h⟩:=h
  cases h
  exact aG (aR hx0) (aG (aR hx1) (aG (aR hx2) (aG (aR hx3) (aG (aR hx4) (iK)))))
 ·cases h
def qJT(x:Scr):List (D TK):=[.int .i64 x.shape,.sl 3 x.ns,.sl 67 x.acts]
def qUW:List (D TK)→Option Scr
 | y0::y1::y2::[]=>(asI y0).bind fun x0=>(asL 3 y1).bind fun x1=>(asL 67 y2).bind fun x2=>some ⟨x0,x1,x2⟩
 | _=>none
theorem zMx(l:List (D TK))(x:Scr)(h:qUW l=some x):DLs l (qJT x):=by
 unfold qUW at h
 split at h
 ·simp only[gm] at h
  obtain⟨x0,hx0,x1,hx1,x2,hx2,h⟩:=h
  cases h
  exact aG (aR hx0) (aG (fM hx1) (aG (fM hx2) (iK)))
 ·cases h
structure zPZ(e:Nat) where
 k:Nat
 enc:TK e→List (D TK)
 dec:List (D TK)→Option (TK e)
 law:∀l x,dec l=some x→DLs l (enc x)
 len:∀x,(enc x).length=k
def qUX:(e:Nat)→zPZ e
 | 3=>⟨1,qUP,qUQ,zMp,fun _=>rfl⟩
 | 5=>⟨1,zDK,zDL,zO4,fun _=>rfl⟩
 | 9=>⟨1,encStr,qUR,zMq,fun _=>rfl⟩
 | 40=>⟨2,qUS,qUT,zMv,fun _=>rfl⟩
 | 76=>⟨2,zDM,zDN,zO5,fun _=>rfl⟩
 | 79=>⟨3,zDO,zDP,zO6,fun _=>rfl⟩
 | 30=>⟨2,zDQ,zDR,zO7,fun _=>rfl⟩
 | 53=>⟨8,zDS,zDT,zO8,fun _=>rfl⟩
 | 131=>⟨8,zDU,zDV,zO9,fun _=>rfl⟩
 | 43=>⟨14,zDW,zDX,zOA,fun _=>rfl⟩
 | 46=>⟨9,zDY,zDZ,zOB,fun _=>rfl⟩
 | 91=>⟨3,zEa,zEb,zOC,fun _=>rfl⟩
 | 55=>⟨6,zEc,zEd,zOD,fun _=>rfl⟩
 | 37=>⟨10,zEe,zEf,zOE,fun _=>rfl⟩
 | 57=>⟨35,zEg,zEh,zOF,fun _=>rfl⟩
 | 49=>⟨5,zEi,zEj,zOG,fun _=>rfl⟩
 | 279=>⟨2,zEk,zEl,zOH,fun _=>rfl⟩
 | 461=>⟨2,zEm,zEn,zOI,fun _=>rfl⟩
 | 345=>⟨2,zEo,zEp,zOJ,fun _=>rfl⟩
 | 438=>⟨5,zEq,zEr,zOK,fun _=>rfl⟩
 | 67=>⟨5,qUU,qUV,zMw,fun _=>rfl⟩
 | 25=>⟨3,qJT,qUW,zMx,fun _=>rfl⟩
 | _=>⟨0,fun _=>[],fun _=>none,fun _ _ h=>(by cases h),fun _=>rfl⟩
def zOL(e:Nat):Bool:=Nat.beq e 5
structure zOM(e:Nat) where
 toS:List (TK e)→List UInt8
 ofS:List UInt8→List (TK e)
def zLw:(e:Nat)→zOM e
 | 5=>⟨dn,up⟩
 | _=>⟨fun _=>[],fun _=>[]⟩
theorem qI6{e:Nat}(h:zOL e=true):e=5:=cu h
def aC:Reg where
 hint:=[79,43,57]
 T:=TK
 has e:=(zMo e).has
 k e:=(qUX e).k
 dflt e:=(zMo e).dflt
 enc e:=(qUX e).enc
 dec e:=(qUX e).dec
 isB:=zOL
 toS e:=(zLw e).toS
 ofS e:=(zLw e).ofS
 law e:=(qUX e).law
 len e:=(qUX e).len
 toS_len e xs h:=by have:= qI6 h;subst this;exact zMs xs
 toS_get e xs r h hr:=by have:= qI6 h;subst this;exact⟨_,rfl,zMt hr⟩
 ofS_len e s h:=by have:= qI6 h;subst this;exact zMr s
 ofS_get e s r h _:=by have:= qI6 h;subst this;exact congrArg (fun n:Int=>[D.int IntKind.u8 n]) (zMu s r)
 Tab:=fun _=>True
abbrev VK:=V aC.T
abbrev TB:=List VK→Hp aC.T→Out (VK×Hp aC.T)
abbrev w64(n:Int):Int:=IntKind.i64.wrap n
theorem mixed:Tryz.prog.follows .mixedOrders=true:=by kernel_rfl
theorem zON:(Tryz.prog.funcs.toList.all fun fn=>fn.body.isNone||!(fn.name == "runtime.NumGoroutine"))=true:=by kernel_rfl
theorem hno:∀(f:FuncId) fn,Tryz.prog.funcs[f]? = some fn→fn.body.isNone=false→(fn.name == "runtime.NumGoroutine")=false:=by
 intro f fn h hb
 have:= fw.1 zON fn (by rw[vg];exact uq h)
 rw[hb] at this
 simpa using this
theorem there(f:Nat)(h:(match Tryz.prog.funcs[f]? with | some fn=>!fn.body.isNone | none=>false)=true):There Tryz.prog f:=by
 split at h
 ·rename_i fn hfn
  have hb:fn.body.isNone=false:=by simpa using h
  exact⟨fn,hfn,hno f fn hfn hb,hb⟩
 ·cases h
def aJ(f:FuncId)(S:TB):Prop:=∀args h Q,(S args h).K Q→There Tryz.prog f∧∀N F φ w cargs,(∀r,Q r→gM N h.nx r.2.nx)→HR N F φ h w→jD F w φ args cargs→Calls Tryz.prog f cargs w (gN N F φ h w Q)
theorem aA{f:FuncId}{S}{l:List (Nat×TB)}(h:aJ f S)(hl:iH Tryz.prog (fun g=>bV l g)):iH Tryz.prog (fun g=>bV ((f,S)::l) g):=by
 intro g S' hg
 simp only[bV] at hg
 split at hg
 ·rename_i hb
  cases hg
  rw[←cu hb]
  exact h
 ·exact hl g S' hg
theorem eX:iH (reg:=aC) Tryz.prog (fun g=>bV [] g):=fun f S h=>by cases h
abbrev Ka:=Cs aC
def con(ka kr:List Kd)(pre:Ka ka→Bool)(M:Ka ka→Ka kr)(hk:ka.all dA=true):TB:=(qBJ aC ka kr pre M).con (qFv ka kr pre M hk)
def tree(hd:Hd aC.T)(L J:Nat→St aC.T→Option (List Ld))(f:Nat)(ka kr:List Kd)(a:Ka ka):DT (Ka kr):=match Tryz.prog.funcs[f]? with
 | some fn=>qOT aC Tryz.prog hd 1000 L J fn (qDQ aC ka a) ⟨.e,0,[]⟩ (zAw aC kr)
 | none=>.bad
theorem row_of{hd:Hd aC.T}(hHd:bI Tryz.prog hd){L J:Nat→St aC.T→Option (List Ld)}{f:Nat}(ht:(match Tryz.prog.funcs[f]? with | some fn=>!fn.body.isNone | none=>false)=true){ka kr:List Kd}(hk:ka.all dA=true)(hkr:kr.all dA=true){pre:Ka ka→Bool}{M:Ka ka→Ka kr}
  (h:∀a,pre a=true→(tree hd L J f ka kr a).G (M a)):aJ f (con ka kr pre M hk):=by
 obtain⟨fn,hfn⟩:∃fn,Tryz.prog.funcs[f]? = some fn:=by
  split at ht
  ·rename_i fn h;exact⟨fn,h⟩
  ·cases ht
 refine Spec.nT (qGV (fuel:=1000) (L:=L) (J:=J) mixed hHd hfn (there f ht) hkr fun a ha=>?_) (qFv ka kr pre M hk) (fun _=>cz _)
 have:= h a ha
 unfold tree at this
 rw[hfn] at this
 exact this
def hd0:Hd aC.T:=hdT aC Tryz.prog (fun _=>none) (fun _=>false) 1000 5
theorem eF:bI Tryz.prog hd0:=bU mixed hno (fun f S h=>by cases h) _ _ _
def ljT:List (Nat×(St aC.T→List Ld))→Nat→St aC.T→Option (List Ld)
 | [],_,_=>none
 | (i,x)::l,j,st=>(match Nat.beq i j with | true=>some (x st) | false=>ljT l j st)
abbrev si(t:Nat):Ld:=.slot t (.int .i64)
end Go.Proofs.YtlmkakccmpncjaaGreatDoor
namespace Go.W
open Sum
open Go
section
variable {α ρ σ β:Type}
@[simp] theorem qHU{a x:α}:(DT.ret a).G x↔a=x:=Iff.rfl
@[simp] theorem qAJ{b:Bool}{t:DT α}{x:α}:(DT.need b t).G x↔b=true∧t.G x:=bD _ _
@[simp] theorem zQ2{b:Bool}{t u:DT α}{x:α}:(DT.br b t u).G x↔(b=true→t.G x)∧(b=false→u.G x):=zD3
theorem aH{b:Bool}{t:DT α}{x:α}(h:b=true)(ht:t.G x):(DT.need b t).G x:=qAJ.2 ⟨h,ht⟩
theorem bW{b:Bool}{t u:DT α}{x:α}(h:b=true)(ht:t.G x):(DT.br b t u).G x:=by subst h;exact ht
theorem aV{b:Bool}{t u:DT α}{x:α}(h:b=false)(ht:u.G x):(DT.br b t u).G x:=by subst h;exact ht
theorem qMd{b:Bool}{t u:DT α}{x:α}(h1:b=true→t.G x)(h2:b=false→u.G x):(DT.br b t u).G x:=zD3.2 ⟨h1,h2⟩
@[simp] theorem iT{i n:Int}:ixB i n=true↔0≤i∧i<n:=by simp[ixB]
@[simp] theorem fZ{n b:Nat}:aT n b=true↔n*b≤140737488355328∧n≤9223372036854775807:=by simp[aT]
@[simp] theorem qDb{l u n:Int}:inB l u n=true↔0≤l∧l≤u∧u≤n:=by simp[inB,and_assoc]
@[simp] theorem qI7{l u n:Int}:slB l u n=true↔0≤l∧l≤u∧u≤n:=by simp[slB,qDb]
@[simp] theorem pJ(l:List α):bF 0 l.length l=l:=by simp[bF]
@[simp] theorem zQ4{a b:Nat}:Nat.beq a b=true↔a=b:=by rw[Nat.beq_eq]
@[simp] theorem qHb{a b:Nat}:Nat.ble a b=true↔a≤b:=by rw[Nat.ble_eq]
def scan(f:β→α→β ⊕ ρ)(fin:β→ρ):List α→β→ρ
 | [],b=>fin b
 | a::l,b=>(match f b a with | .inl b'=>scan f fin l b' | .inr r=>r)
theorem qX{body:σ→DT (σ ⊕ ρ)}{x:ρ}(I:σ→Prop)(μ:σ→Nat)(h:∀s,I s→(∃s',(body s).G (.inl s')∧I s'∧μ s' < μ s)∨(body s).G (.inr x)){s0:σ}(h0:I s0):(DT.loop s0 body).G x:=by
 have key:∀(n:Nat) (s:σ),μ s<n→I s→DT.yO (fun s y=>(body s).G y) n s x:=by
  intro n
  induction n with
  | zero=>intro s h;omega
  | succ n ih =>
   intro s hs hi
   rcases h s hi with⟨s',h1,h2,h3⟩ | h1
   ·exact⟨.inl s',h1,ih s' (by omega) h2⟩
   ·exact⟨.inr x,h1,rfl⟩
 exact DT.pF.2 ⟨_,key _ s0 (jy _) h0⟩
theorem iU(l:List α)(d:α)(enc:Int→β→σ){body:σ→DT (σ ⊕ ρ)}(f:β→α→β ⊕ ρ)(fin:β→ρ)(I:Nat→β→Prop)
  (hstep:∀(i:Nat) (b:β),i<l.length→I i b→match f b (l.getD i d) with | .inl b'=>I (i+1) b'∧(body (enc (i:Int) b)).G (.inl (enc ((i+1:Nat):Int) b')) | .inr r=>(body (enc (i:Int) b)).G (.inr r))
  (hend:∀b,I l.length b→(body (enc (l.length:Int) b)).G (.inr (fin b))) {b0:β} (h0:I 0 b0) {x:ρ} (hx:scan f fin l b0=x):(DT.loop (enc 0 b0) body).G x:=by
 have key:∀(n i:Nat) (b:β),l.length-i<n→i≤l.length→I i b→scan f fin (l.drop i) b=x→DT.yO (fun s y=>(body s).G y) n (enc (i:Int) b) x:=by
  intro n
  induction n with
  | zero=>intro i b h;omega
  | succ n ih =>
   intro i b hn hi hI hs
   rcases iw i l.length with hlt | hge
   ·have hd:l.drop i=l.getD i d::l.drop (i+1):=by
     rw[kv hlt]
     simp[List.getD,hlt]
    rw[hd] at hs
    have h1:=hstep i b hlt hI
    simp only[scan] at hs
    cases hf:f b (l.getD i d) with
    | inl b' =>
     rw[hf] at h1 hs
     exact⟨_,h1.2,ih (i+1) b' (by omega) hlt h1.1 hs⟩
    | inr r =>
     rw[hf] at h1 hs
     exact⟨_,h1,hs⟩
   ·have hi':i=l.length:=by omega
    subst hi'
    rw[List.drop_length] at hs
    exact⟨_,hend b hI,hs⟩
 exact DT.pF.2 ⟨_,key _ 0 b0 (jy _) (cz _) h0 (by simpa using hx)⟩
def qMN(f:Nat→β→α→β ⊕ ρ)(fin:Nat→β→ρ):Nat→List α→β→ρ
 | i,[],b=>fin i b
 | i,a::l,b=>(match f i b a with | .inl b'=>qMN f fin (i+1) l b' | .inr r=>r)
theorem qPc(l:List α)(d:α)(enc:Int→β→σ){body:σ→DT (σ ⊕ ρ)}(f:Nat→β→α→β ⊕ ρ)(fin:Nat→β→ρ)(I:Nat→β→Prop)
  (hstep:∀(i:Nat) (b:β),i<l.length→I i b→match f i b (l.getD i d) with | .inl b'=>I (i+1) b'∧(body (enc (i:Int) b)).G (.inl (enc ((i+1:Nat):Int) b')) | .inr r=>(body (enc (i:Int) b)).G (.inr r))
  (hend:∀b,I l.length b→(body (enc (l.length:Int) b)).G (.inr (fin l.length b))) {b0:β} (h0:I 0 b0) {x:ρ} (hx:qMN f fin 0 l b0=x):(DT.loop (enc 0 b0) body).G x:=by
 have key:∀(n i:Nat) (b:β),l.length-i<n→i≤l.length→I i b→qMN f fin i (l.drop i) b=x→DT.yO (fun s y=>(body s).G y) n (enc (i:Int) b) x:=by
  intro n
  induction n with
  | zero=>intro i b h;omega
  | succ n ih =>
   intro i b hn hi hI hs
   rcases iw i l.length with hlt | hge
   ·have hd:l.drop i=l.getD i d::l.drop (i+1):=by
     rw[kv hlt]
     simp[List.getD,hlt]
    rw[hd] at hs
    have h1:=hstep i b hlt hI
    simp only[qMN] at hs
    cases hf:f i b (l.getD i d) with
    | inl b' =>
     rw[hf] at h1 hs
     exact⟨_,h1.2,ih (i+1) b' (by omega) hlt h1.1 hs⟩
    | inr r =>
     rw[hf] at h1 hs
     exact⟨_,h1,hs⟩
   ·have hi':i=l.length:=by omega
    subst hi'
    rw[List.drop_length] at hs
    exact⟨_,hend b hI,hs⟩
 exact DT.pF.2 ⟨_,key _ 0 b0 (jy _) (cz _) h0 (by simpa using hx)⟩
theorem aN{t:DT (σ ⊕ α)}{k:σ→DT α}{x:α}(s:σ)(h1:t.G (.inl s))(h2:(k s).G x):(DT.join t k).G x:=DT.lG.2 ⟨.inl s,h1,h2⟩
theorem uT{t:DT (σ ⊕ α)}{k:σ→DT α}{x:α}(h1:t.G (.inr x)):(DT.join t k).G x:=DT.lG.2 ⟨.inr x,h1,rfl⟩
@[simp] theorem zQa{b:Bool}{t:DT (σ ⊕ α)}{k:σ→DT α}{x:α}:(DT.join (DT.need b t) k).G x↔b=true∧(DT.join t k).G x:=by
 rw[DT.lG,DT.lG]
 exact⟨fun⟨y,h1,h2⟩=>⟨(qAJ.1 h1).1,y,(qAJ.1 h1).2,h2⟩,fun⟨h0,y,h1,h2⟩=>⟨y,qAJ.2 ⟨h0,h1⟩,h2⟩⟩
@[simp] theorem zQ5{b:Bool}{t u:DT (σ ⊕ α)}{k:σ→DT α}{x:α}:(DT.join (DT.br b t u) k).G x↔(b=true→(DT.join t k).G x)∧(b=false→(DT.join u k).G x):=by
 cases b with
 | true=>exact⟨fun h=>⟨fun _=>h,fun e=>(by cases e)⟩,fun h=>h.1 rfl⟩
 | false=>exact⟨fun h=>⟨fun e=>(by cases e),fun _=>h⟩,fun h=>h.2 rfl⟩
@[simp] theorem mO{s:σ}{k:σ→DT α}{x:α}:(DT.join (DT.ret (.inl s)) k).G x↔(k s).G x:=by
 rw[DT.lG]
 exact⟨fun⟨y,h1,h2⟩=>by have h1:inl s=y:=h1;subst h1;exact h2,fun h=>⟨.inl s,rfl,h⟩⟩
@[simp] theorem zQ3{a:α}{k:σ→DT α}{x:α}:(DT.join (DT.ret (.inr a)) k).G x↔a=x:=by
 rw[DT.lG]
 exact⟨fun⟨y,h1,h2⟩=>by have h1:inr a=y:=h1;subst h1;exact h2,fun h=>⟨.inr a,rfl,h⟩⟩
@[simp] theorem lV(k:Nat)(l:List α):aO 0 k l=l.take k:=by simp[aO]
@[simp] theorem wG(k:Nat)(l:List α):aO k l.length l=l.drop k:=by simp[aO]
theorem qBM(p:α→Bool)(g:Nat→ρ):∀(l:List α) (i:Nat),qMN (fun i (_:Unit) a=>bif p a then .inl () else .inr (g i)) (fun i _=>g i) i l ()=g (i+(l.takeWhile p).length)
 | [],i=>rfl
 | a::l,i=>by
  simp only[qMN,List.takeWhile]
  cases p a with
  | true=>simp only[cond_true,qBM p g l,dw];congr 1;omega
  | false=>rfl
theorem qXJ(p:α→Bool):∀l:List α,l.take (l.takeWhile p).length=l.takeWhile p∧l.drop (l.takeWhile p).length=l.dropWhile p
 | []=>⟨rfl,rfl⟩
 | a::l=>by
  simp only[List.takeWhile,List.dropWhile]
  cases p a with
  | true=>simp[(qXJ p l).1,(qXJ p l).2]
  | false=>simp
@[simp] theorem fI(n:Nat):Nat.ble n n=true:=ik (df n)
@[simp] theorem bZ(n:Nat):Nat.beq n n=true:=lg n
def runK{σ α:Type}(o:Option (σ ⊕ α))(k:σ→Option α):Option α:=match o with
 | some (.inl s)=>k s
 | some (.inr a)=>some a
 | none=>none
@[simp] theorem iB{s:σ}{k:σ→Option α}:runK (some (inl s)) k=k s:=rfl
@[simp] theorem iV{a:α}{k:σ→Option α}:runK (some (inr a)) k=some a:=rfl
@[simp] theorem zOi{k:σ→Option α}:runK none k=none:=rfl
def DT.run:{α:Type}→DT α→Option α
 | _,.ret a=>some a
 | _,.need b t=>bif b then t.run else none
 | _,.br b t u=>bif b then t.run else u.run
 | _,.both _ _=>none
 | _,.bad=>none
 | _,.loop _ _=>none
 | _,.join t k=>runK t.run fun s=>(k s).run
 termination_by structural _ t=>t
@[simp] theorem cB{a:α}:(DT.ret a).run=some a:=rfl
@[simp] theorem dD{b:Bool}{t:DT α}:(DT.need b t).run=bif b then t.run else none:=rfl
@[simp] theorem eG{b:Bool}{t u:DT α}:(DT.br b t u).run=bif b then t.run else u.run:=rfl
@[simp] theorem jM{t:DT (σ ⊕ α)}{k:σ→DT α}:(DT.join t k).run=runK t.run fun s=>(k s).run:=rfl
theorem aF:∀{α:Type} {t:DT α} {x:α},t.run=some x→t.G x:=by
 intro α t
 induction t with
 | ret a=>intro x h;cases h;rfl
 | need b t ih =>
  intro x h
  cases b with
  | true=>exact qAJ.2 ⟨rfl,ih h⟩
  | false=>cases h
 | br b t u iht ihu =>
  intro x h
  cases b with
  | true=>exact iht h
  | false=>exact ihu h
 | both t u _ _=>intro x h;cases h
 | bad=>intro x h;cases h
 | loop s body ih=>intro x h;cases h
 | join t k iht ihk =>
  intro x h
  rw[jM] at h
  unfold runK at h
  split at h
  ·rename_i s hs;exact aN s (iht hs) (ihk s h)
  ·rename_i a hs;cases h;exact uT (iht hs)
  ·cases h
theorem mR(l:List α)(d:α)(enc:Int→β→σ){body:σ→DT (σ ⊕ ρ)}(f:β→α→β ⊕ ρ)(fin:β→ρ)(I:Nat→β→Prop)
  (hstep:∀(i:Nat) (b:β),i<l.length→I i b→match f b (l.getD i d) with | .inl b'=>I (i+1) b'∧(body (enc (i:Int) b)).run=some (.inl (enc ((i+1:Nat):Int) b')) | .inr r=>(body (enc (i:Int) b)).run=some (.inr r))
  (hend:∀b,I l.length b→(body (enc (l.length:Int) b)).run=some (.inr (fin b))) {b0:β} (h0:I 0 b0) {x:ρ} (hx:scan f fin l b0=x):(DT.loop (enc 0 b0) body).G x :=
 iU l d enc f fin I (fun i b hi hI=>by
  have:= hstep i b hi hI
  split<;>rename_i h<;>rw[h] at this
  ·exact⟨this.1,aF this.2⟩
  ·exact aF this) (fun b hI=>aF (hend b hI)) h0 hx
theorem qHc(p:α→Bool)(g:α→ρ)(e:ρ):∀l:List α,scan (fun(_:Unit) a=>bif p a then .inr (g a) else .inl ()) (fun _=>e) l ()=(match l.find? p with | some a=>g a | none=>e)
 | []=>rfl
 | a::l=>by
  simp only[scan,List.find?]
  cases p a with
  | true=>rfl
  | false=>exact qHc p g e l
theorem bM(g:β→α→β)(fin:β→ρ):∀(l:List α) (b:β),scan (fun b a=>.inl (g b a)) fin l b=fin (l.foldl g b)
 | [],b=>rfl
 | a::l,b=>by simp only[scan,List.foldl];exact bM g fin l (g b a)
def sW{γ:Type}(v:List γ):Option γ→List γ
 | some c=>v++[c]
 | none=>v
theorem fold_filterMap{γ:Type}(h:α→Option γ):∀(l:List α) (b:List γ),l.foldl (fun b a=>sW b (h a)) b=b++l.filterMap h
 | [],b=>by simp
 | a::l,b=>by
  rw[List.foldl,fold_filterMap h l,u6]
  cases h a with
  | none=>rfl
  | some c=>simp[sW]
theorem fold_filter(p:α→Bool):∀(l:List α) (b:List α),l.foldl (fun b a=>bif p a then b++[a] else b) b=b++l.filter p
 | [],b=>by simp
 | a::l,b=>by
  simp only[List.foldl,List.filter]
  cases p a<;>simp[fold_filter p l]
end
theorem sS:(type_of% @dD)∧(type_of% @eG)∧(type_of% @cB)∧(type_of% @jM)∧(type_of% @iB)∧(type_of% @iV)∧(type_of% @cond_true.{1})∧(type_of% @cond_false.{1})∧(type_of% fq)∧(type_of% j6)∧(type_of% o7)∧(type_of% ou)∧(type_of% w9)∧(type_of% oq)∧(type_of% jl)∧(type_of% l9)∧(type_of% di)∧(type_of% @dm)∧(type_of% @pJ)∧(type_of% @lV)∧(type_of% @iq.{0})∧(type_of% @fI)∧(type_of% @bZ)∧(type_of% @dh.{0})∧(type_of% @dw.{0})∧(type_of% @gq.{0})∧(type_of% @l6.{0}) :=
 ⟨@dD,@eG,@cB,@jM,@iB,@iV,@cond_true.{1},@cond_false.{1},fq,j6,o7,ou,w9,oq,jl,l9,di,@dm,@pJ,@lV,@iq.{0},@fI,@bZ,@dh.{0},@dw.{0},@gq.{0},@l6.{0}⟩
end Go.W
namespace Go.Proofs.YtlmkakccmpncjaaGreatDoor
open Sum
open Go Go.W Go.Proofs
open Go.W.DT (ret need br bad loop join)
set_option maxRecDepth 100000
def qXK:=ljT [(2,fun st=>[si 6])]
def qPd(s:Se)(id:Int):DT (Nd×Bool×Unit) :=
 let +zeta a:=(↑s.nodes.length:Int);loop (0,()) fun(p:Int×Unit) =>let +zeta b:=s.nodes.getD (Int.toNat p.1) dNd;br (decide (p.1<a)) (need (ixB p.1 a) (br (b.id==id) (need (ixB p.1 a) (ret (inr (b,true,())))) (ret (inl (w64 (p.1+1),()))))) (ret (inr (dNd,false,())))

theorem zIW(s:Se)(id:Int)(r:(Nd×Bool×Unit)):(tree hd0 qXK noL 113 [.rcd 37,.int .i64] [.rcd 53,.bool] (s,id,())).G r=(qPd s id).G r:=by kernel_rfl
def qXL:=ljT [(3,fun st=>[si 6]++bK st 5 [.rcd 40])]
def qXM:=ljT [(4,fun st=>bK st 5 [.rcd 40])]
def qPe(s:Se)(id:Int):DT (Vec×Unit) :=
 let +zeta c:=(↑s.conts.length:Int);loop (0,(gQ,()),()) fun(p:Int×(Vec×Unit)×Unit) =>let +zeta b:=Prod.fst p.2;let +zeta a:=s.conts.getD (Int.toNat p.1) dCt;br (decide (p.1<c)) ((need (ixB p.1 c) (br (a.node==id) (need (ixB p.1 c) (ret (inl ((Vec.mk (w64 (b.1.mem+a.size.mem)) (w64 (b.1.cores+a.size.cores)),()),())))) (ret (inl ((b.1,()),()))))).join fun(q:(Vec×Unit)×Unit)=>ret (inl (w64 (p.1+1),(q.1.1,()),()))) (ret (inr (b.1,())))

theorem zIX(s:Se)(id:Int)(r:(Vec×Unit)):(tree hd0 qXL qXM 375 [.rcd 37,.int .i64] [.rcd 40] (s,id,())).G r=(qPe s id).G r:=by kernel_rfl
def qMO:=ljT [(3,fun st=>[aS st 3 3 false,si 4])]
def qMP:=ljT [(4,fun st=>[aS st 3 3 false])]
def qHd(s:Se):DT (List Int×Unit) :=
 let +zeta g:=(↑s.nodes.length:Int);loop ([],0,()) fun(p:List Int×Int×Unit) =>let +zeta h:=p.1;let +zeta f:=List.length h+1;let +zeta d:=0+List.length h;let +zeta c:=ixB (Prod.fst p.2) g;let +zeta b:=s.nodes.getD (Int.toNat (Prod.fst p.2)) dNd;let +zeta a:=List.length h;let +zeta e:=@bF Int 0 a h++[b.id];br (decide (Prod.fst p.2<g)) ((need c (br b.up (need c (br (decide (w64 (s.now-b.seen)≥10)) (need c (need (d.beq a) (need (aT f 8&&d.ble a) (need (f.beq e.length) (ret (inl (e,()))))))) (need (a.beq a) (ret (inl (h,())))))) (need (a.beq a) (ret (inl (h,())))))).join fun(q:List Int×Unit)=>need ((List.length q.1).beq (List.length q.1)) (ret (inl (q.1,w64 (Prod.fst p.2+1),())))) (need (d.ble a) (ret (inr (@aO Int 0 d h,()))))

theorem zAA(s:Se)(r:(List Int×Unit)):(tree hd0 qMO qMP 130 [.rcd 37] [.dat 3] (s,())).G r=(qHd s).G r:=by kernel_rfl
def zEs:=ljT [(2,fun st=>[si 6])]
def qUY(l:List Ak)(prio:Int):DT (Ak×Bool×Unit) :=
 let +zeta a:=(↑l.length:Int);loop (0,()) fun(s:Int×Unit) =>let +zeta b:=l.getD (Int.toNat s.1) dAk;br (decide (s.1<a)) (need (ixB s.1 a) (br (b.prio==prio) (need (ixB s.1 a) (ret (inr (b,true,())))) (ret (inl (w64 (s.1+1),()))))) (ret (inr (dAk,false,())))

theorem zMy(l:List Ak)(prio:Int)(r:(Ak×Bool×Unit)):(tree hd0 zEs noL 311 [.dat 131,.int .i64] [.rcd 131,.bool] (l,prio,())).G r=(qUY l prio).G r:=by kernel_rfl
def qJU:=ljT [(3,fun st=>[si 6]++bK st 5 [.rcd 40])]
def qJV:=ljT [(4,fun st=>bK st 5 [.rcd 40])]
def qEw(l:List Ak)(label:Int):DT (Vec×Unit) :=
 loop (0,(gQ,()),()) fun(s:Int×(Vec×Unit)×Unit) =>let +zeta c:=Prod.fst s.2;let +zeta b:=ixB s.1 (↑l.length:Int);let +zeta a:=l.getD (Int.toNat s.1) dAk;br (decide (s.1<(↑l.length:Int))) ((need b (br (a.label==label) (need b (need b (need b (need b (ret (inl ((Vec.mk (w64 (c.1.mem+w64 (a.size.mem*a.count))) (w64 (c.1.cores+w64 (a.size.cores*a.count))),()),()))))))) (ret (inl ((c.1,()),()))))).join fun(p:(Vec×Unit)×Unit)=>ret (inl (w64 (s.1+1),(p.1.1,()),()))) (ret (inr (c.1,())))

theorem qUZ(l:List Ak)(label:Int)(r:(Vec×Unit)):(tree hd0 qJU qJV 387 [.dat 131,.int .i64] [.rcd 40] (l,label,())).G r=(qEw l label).G r:=by kernel_rfl
def qRd:=ljT [(3,fun st=>[si 6]++bK st 5 [.rcd 40])]
def qRe:=ljT [(4,fun st=>bK st 5 [.rcd 40])]
def qJW(s:Se)(label:Int):DT (Vec×Unit) :=
 let +zeta d:=(↑s.nodes.length:Int);loop (0,(gQ,()),()) fun(p:Int×(Vec×Unit)×Unit) =>let +zeta c:=Prod.fst p.2;let +zeta b:=ixB p.1 d;let +zeta a:=s.nodes.getD (Int.toNat p.1) dNd;br (decide (p.1<d)) ((need b (br a.up (need b (br (a.label==label) (need b (ret (inl ((Vec.mk (w64 (c.1.mem+a.cap.mem)) (w64 (c.1.cores+a.cap.cores)),()),())))) (ret (inl ((c.1,()),()))))) (ret (inl ((c.1,()),()))))).join fun(q:(Vec×Unit)×Unit)=>ret (inl (w64 (p.1+1),(q.1.1,()),()))) (ret (inr (c.1,())))

theorem zEt(s:Se)(label:Int)(r:(Vec×Unit)):(tree hd0 qRd qRe 138 [.rcd 37,.int .i64] [.rcd 40] (s,label,())).G r=(qJW s label).G r:=by kernel_rfl
def qXN:=ljT [(3,fun st=>[si 6]++bK st 5 [.rcd 40])]
def qXO:=ljT [(4,fun st=>bK st 5 [.rcd 40])]
def qPf(s:Se)(label:Int):DT (Vec×Unit) :=
 let +zeta c:=(↑s.plans.length:Int);loop (0,(gQ,()),()) fun(p:Int×(Vec×Unit)×Unit) =>let +zeta b:=Prod.fst p.2;let +zeta a:=s.plans.getD (Int.toNat p.1) dPn;br (decide (p.1<c)) ((need (ixB p.1 c) (br (a.label==label) (br (decide (a.start≤s.now)) (br (decide (s.now<a.stop)) (ret (inl ((Vec.mk (w64 (b.1.mem+a.need.mem)) (w64 (b.1.cores+a.need.cores)),()),()))) (ret (inl ((b.1,()),())))) (ret (inl ((b.1,()),())))) (ret (inl ((b.1,()),()))))).join fun(q:(Vec×Unit)×Unit)=>ret (inl (w64 (p.1+1),(q.1.1,()),()))) (ret (inr (b.1,())))

theorem zIY(s:Se)(label:Int)(r:(Vec×Unit)):(tree hd0 qXN qXO 378 [.rcd 37,.int .i64] [.rcd 40] (s,label,())).G r=(qPf s label).G r:=by kernel_rfl
def qRf:=ljT [(2,fun st=>[si 6])]
def qJX(s:Se)(id:Int):DT (Ap×Bool×Unit) :=
 let +zeta a:=(↑s.apps.length:Int);loop (0,()) fun(p:Int×Unit) =>let +zeta b:=s.apps.getD (Int.toNat p.1) dAp;br (decide (p.1<a)) (need (ixB p.1 a) (br (b.id==id) (need (ixB p.1 a) (ret (inr (b,true,())))) (ret (inl (w64 (p.1+1),()))))) (ret (inr (dAp,false,())))

theorem zEu(s:Se)(id:Int)(r:(Ap×Bool×Unit)):(tree hd0 qRf noL 120 [.rcd 37,.int .i64] [.rcd 43,.bool] (s,id,())).G r=(qJX s id).G r:=by kernel_rfl
def qRg:=ljT [(2,fun st=>[si 6])]
def qJY(s:Se)(id:Int):DT (Ct×Bool×Unit) :=
 let +zeta a:=(↑s.conts.length:Int);loop (0,()) fun(p:Int×Unit) =>let +zeta b:=s.conts.getD (Int.toNat p.1) dCt;br (decide (p.1<a)) (need (ixB p.1 a) (br (b.id==id) (need (ixB p.1 a) (ret (inr (b,true,())))) (ret (inl (w64 (p.1+1),()))))) (ret (inr (dCt,false,())))

theorem zEv(s:Se)(id:Int)(r:(Ct×Bool×Unit)):(tree hd0 qRg noL 10 [.rcd 37,.int .i64] [.rcd 46,.bool] (s,id,())).G r=(qJY s id).G r:=by kernel_rfl
def qRh:=ljT [(3,fun st=>[aS st 5 46 false,si 6])]
def qRi:=ljT [(4,fun st=>[aS st 5 46 false])]
def qJZ(s:Se)(id:Int):DT (Se×Unit) :=
 let +zeta h:=(↑s.conts.length:Int);loop ([],0,()) fun(p:List Ct×Int×Unit) =>let +zeta f:=Prod.fst p.2;let +zeta e:=List.length p.1+1;let +zeta d:=ixB f h;let +zeta b:=List.length p.1;let +zeta c:=@bF Ct 0 b p.1++[s.conts.getD (Int.toNat f) dCt];let +zeta a:=0+List.length p.1;let +zeta g:=a.ble b&&true&&true;br (decide (Prod.fst p.2<h)) ((need d (br ((s.conts.getD (Int.toNat f) dCt).id != id) (need d (need (a.beq b) (need (aT e 72&&a.ble b) (need (e.beq c.length) (ret (inl (c,()))))))) (need (b.beq b) (ret (inl (p.1,())))))).join fun(q:List Ct×Unit)=>need ((List.length q.1).beq (List.length q.1)) (ret (inl (q.1,w64 (Prod.fst p.2+1),())))) (need (a.ble b&&true) (need g (need g (ret (inr ({s with conts:=@aO Ct 0 a p.1},()))))))

theorem zEw(s:Se)(id:Int)(r:(Se×Unit)):(tree hd0 qRh qRi 127 [.rcd 37,.int .i64] [.rcd 37] (s,id,())).G r=(qJZ s id).G r:=by kernel_rfl
def qKa:=ljT [(3,fun st=>[aS st 3 3 false,si 4])]
def qKb:=ljT [(4,fun st=>[aS st 3 3 false])]
def qEx(s:Se):DT (List Int×Unit) :=
 let +zeta h:=(↑s.apps.length:Int);loop ([],0,()) fun(p:List Int×Int×Unit) =>let +zeta g:=p.1;let +zeta f:=List.length g+1;let +zeta d:=ixB (Prod.fst p.2) h;let +zeta c:=0+List.length g;let +zeta b:=s.apps.getD (Int.toNat (Prod.fst p.2)) dAp;let +zeta a:=List.length g;let +zeta e:=@bF Int 0 a g++[b.id];br (decide (Prod.fst p.2<h)) ((need d (br (b.state==2) (need d (br (decide (w64 (s.now-b.seen)≥15)) (need d (need (c.beq a) (need (aT f 8&&c.ble a) (need (f.beq e.length) (ret (inl (e,()))))))) (need (a.beq a) (ret (inl (g,())))))) (need (a.beq a) (ret (inl (g,())))))).join fun(q:List Int×Unit)=>need ((List.length q.1).beq (List.length q.1)) (ret (inl (q.1,w64 (Prod.fst p.2+1),())))) (need (c.ble a) (ret (inr (@aO Int 0 c g,()))))

theorem qVa(s:Se)(r:(List Int×Unit)):(tree hd0 qKa qKb 133 [.rcd 37] [.dat 3] (s,())).G r=(qEx s).G r:=by kernel_rfl
end Go.Proofs.YtlmkakccmpncjaaGreatDoor
