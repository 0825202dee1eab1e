/- Part of the proof: texts Ra Ml Rb. No conditions. -/
import Derived.Test.YtclpnndkhbnaoaaGreatDoorVg
import Derived.Test.YtclpnndkhbnaoaaGreatDoorProg
set_option linter.all false
noncomputable section
namespace Go.Proofs.YtclpnndkhbnaoaaGreatDoor
open Go Go.W Go.Proofs
set_option maxRecDepth 100000
abbrev B:=List UInt8
structure Vec where
 mem:Int
 cores:Int
 deriving DecidableEq
structure Cp where
 least:Int
 most:Int
 deriving DecidableEq
structure Qu where
 path:B
 caps:List Cp
 user:Int
 deriving DecidableEq
structure Cf where
 labels:List B
 queues:List Qu
 deriving DecidableEq
structure Nd where
 id:Int
 label:Int
 rack:Int
 cap:Vec
 seen:Int
 beat:Int
 up:Bool
 deriving DecidableEq
structure Ak where
 prio:Int
 label:Int
 size:Vec
 count:Int
 node:Int
 rack:Int
 missed:Int
 deriving DecidableEq
structure Ap where
 id:Int
 state:Int
 queue:B
 user:Int
 prio:Int
 master:Vec
 asks:List Ak
 seen:Int
 beat:Int
 grants:List Int
 kills:List Int
 told:List Int
 lost:List Int
 deriving DecidableEq
structure Ct where
 id:Int
 app:Int
 node:Int
 size:Vec
 prio:Int
 label:Int
 master:Bool
 notice:Int
 deriving DecidableEq
structure Sl where
 node:Int
 app:Int
 prio:Int
 deriving DecidableEq
structure Pn where
 id:Int
 label:Int
 start:Int
 stop:Int
 need:Vec
 deriving DecidableEq
structure Se where
 conf:Cf
 nodes:List Nd
 apps:List Ap
 conts:List Ct
 slots:List Sl
 plans:List Pn
 now:Int
 epoch:Int
 seq:Int
 deriving DecidableEq
structure Ip where
 kind:Int
 id:Int
 beat:Int
 n:Int
 text:B
 node:Nd
 app:Ap
 asks:List Ak
 ids:List Int
 plan:Pn
 deriving DecidableEq
structure Ou where
 err:Int
 conts:List Ct
 ids:List Int
 gone:List Int
 n:Int
 deriving DecidableEq
structure Sh where
 path:B
 mem:Int
 deriving DecidableEq
structure Fr where
 a:Int
 p:Int
 deriving DecidableEq
structure Si where
 path:B
 mem:Int
 deriving DecidableEq
structure Lo where
 path:B
 used:Vec
 least:Vec
 deriving DecidableEq
structure Act where
 kind:Int
 a:Int
 b:Int
 c:Int
 d:Int
 deriving DecidableEq
def zA:Vec:=⟨0,0⟩
def dCp:Cp:=⟨0,0⟩
def dQu:Qu:=⟨[],[],0⟩
def dCf:Cf:=⟨[],[]⟩
def dNd:Nd:=⟨0,0,0,zA,0,0,false⟩
def dAk:Ak:=⟨0,0,zA,0,0,0,0⟩
def dAp:Ap:=⟨0,0,[],0,0,zA,[],0,0,[],[],[],[]⟩
def dCt:Ct:=⟨0,0,0,zA,0,0,false,0⟩
def dSl:Sl:=⟨0,0,0⟩
def dPn:Pn:=⟨0,0,0,0,zA⟩
def dSe:Se:=⟨dCf,[],[],[],[],[],0,0,0⟩
def dIp:Ip:=⟨0,0,0,0,[],dNd,dAp,[],[],dPn⟩
def dOu:Ou:=⟨0,[],[],[],0⟩
def dSi:Si:=⟨[],0⟩
def dLo:Lo:=⟨[],zA,zA⟩
structure qS3 where
 T:Type
 dflt:T
 has:Bool
def qPa:Nat→qS3
 | 3=>⟨Int,0,true⟩
 | 5=>⟨Int,0,true⟩
 | 9=>⟨B,[],true⟩
 | 25=>⟨Vec,zA,true⟩
 | 64=>⟨Cp,dCp,true⟩
 | 67=>⟨Qu,dQu,true⟩
 | 29=>⟨Cf,dCf,true⟩
 | 41=>⟨Nd,dNd,true⟩
 | 51=>⟨Ak,dAk,true⟩
 | 44=>⟨Ap,dAp,true⟩
 | 80=>⟨Ct,dCt,true⟩
 | 83=>⟨Sl,dSl,true⟩
 | 46=>⟨Pn,dPn,true⟩
 | 36=>⟨Se,dSe,true⟩
 | 48=>⟨Ip,dIp,true⟩
 | 55=>⟨Ou,dOu,true⟩
 | 278=>⟨Si,dSi,true⟩
 | 368=>⟨Lo,dLo,true⟩
 | _=>⟨Unit,(),false⟩
def TK(e:Nat):Type:=(qPa e).T
def asI:D TK→Option Int
 | .int .i64 x=>some x
 | _=>none
def asB:D TK→Option Bool
 | .bool x=>some x
 | _=>none
def asS:D TK→Option B
 | .str x=>some x
 | _=>none
def asL(e:Nat):D TK→Option (List (TK e))
 | .sl e' xs=>qP xs e
 | .nils=>some []
 | _=>none
theorem aI{d:D TK}{x:Int}(h:asI d=some x):DLe d (.int .i64 x):=by
 unfold asI at h
 split at h
 ·cases h;exact .inl rfl
 ·cases h
theorem qGe{d:D TK}{x:Bool}(h:asB d=some x):DLe d (.bool x):=by
 unfold asB at h
 split at h
 ·cases h;exact .inl rfl
 ·cases h
theorem vO{d:D TK}{x:B}(h:asS d=some x):DLe d (.str x):=by
 unfold asS at h
 split at h
 ·cases h;exact .inl rfl
 ·cases h
theorem bW{e:Nat}{d:D TK}{x:List (TK e)}(h:asL e d=some x):DLe d (.sl e x):=by
 unfold asL at h
 split at h
 ·exact .inl (rQ h).1.symm
 ·cases h;exact .inr ⟨rfl,.inl ⟨e,rfl⟩⟩
 ·cases h
def DLs(l m:List (D TK)):Prop:=m.length=l.length∧∀j,DLe (l.getD j .nilp) (m.getD j .nilp)
theorem fJ:DLs [] []:=⟨rfl,fun _=>.inl rfl⟩
theorem aB{x y:D TK}{l m:List (D TK)}(h:DLe x y)(hl:DLs l m):DLs (x::l) (y::m) :=
 ⟨by simp[hl.1],fun j=>by cases j with | zero=>exact h | succ j=>simpa using hl.2 j⟩
def qGf(x:Int):List (D TK):=[.int .i64 x]
def qKt(x:Int):List (D TK):=[.int .u8 x]
def encStr(x:B):List (D TK):=[.str x]
def qGg:List (D TK)→Option Int
 | [d]=>asI d
 | _=>none
def qKu:List (D TK)→Option Int
 | [.int .u8 n]=>some n
 | _=>none
def qGh:List (D TK)→Option B
 | [d]=>asS d
 | _=>none
theorem qPb(l:List (D TK))(x:Int)(h:qGg l=some x):DLs l (qGf x):=by
 unfold qGg at h
 split at h
 ·exact aB (aI h) fJ
 ·cases h
theorem qPc(l:List (D TK))(x:B)(h:qGh l=some x):DLs l (encStr x):=by
 unfold qGh at h
 split at h
 ·exact aB (vO h) fJ
 ·cases h
theorem qQN(l:List (D TK))(x:Int)(h:qKu l=some x):DLs l (qKt x):=by
 unfold qKu at h
 split at h
 ·cases h;exact aB (.inl rfl) fJ
 ·cases h
def up(s:B):List Int:=s.map fun c=>(c.toNat:Int)
def dn(xs:List Int):B:=xs.map fun n=>UInt8.ofNat n.toNat
theorem qPd(s:B):(up s).length=s.length:=by simp[up]
theorem qPe(xs:List Int):(dn xs).length=xs.length:=by simp[dn]
theorem qPf{xs:List Int}{r:Nat}(h:r<xs.length):(dn xs).getD r 0=UInt8.ofNat (xs.getD r 0).toNat:=by
 simp[dn,List.getD,h]
theorem qPg(s:B)(r:Nat):(up s).getD r 0=((s.getD r 0).toNat:Int):=by
 rcases ja r s.length with h | h
 ·simp[up,List.getD,h]
 ·simp[up,List.getD,h]
def qGi(x:Vec):List (D TK):=[.int .i64 x.mem,.int .i64 x.cores]
def qGj:List (D TK)→Option Vec
 | y0::y1::[]=>(asI y0).bind fun x0=>(asI y1).bind fun x1=>some ⟨x0,x1⟩
 | _=>none
theorem qPh(l:List (D TK))(x:Vec)(h:qGj l=some x):DLs l (qGi x):=by
 unfold qGj at h
 split at h
 ·simp only[fo] at h
  obtain⟨x0,hx0,x1,hx1,h⟩:=h
  cases h
  exact aB (aI hx0) (aB (aI hx1) (fJ))
 ·cases h
def qKv(x:Cp):List (D TK):=[.int .i64 x.least,.int .i64 x.most]
def qKw:List (D TK)→Option Cp
 | y0::y1::[]=>(asI y0).bind fun x0=>(asI y1).bind fun x1=>some ⟨x0,x1⟩
 | _=>none
theorem qQO(l:List (D TK))(x:Cp)(h:qKw l=some x):DLs l (qKv x):=by
 unfold qKw at h
 split at h
 ·simp only[fo] at h
  obtain⟨x0,hx0,x1,hx1,h⟩:=h
  cases h
  exact aB (aI hx0) (aB (aI hx1) (fJ))
 ·cases h
def qKx(x:Qu):List (D TK):=[.str x.path,.sl 64 x.caps,.int .i64 x.user]
def qKy:List (D TK)→Option Qu
 | y0::y1::y2::[]=>(asS y0).bind fun x0=>(asL 64 y1).bind fun x1=>(asI y2).bind fun x2=>some ⟨x0,x1,x2⟩
 | _=>none
theorem qQP(l:List (D TK))(x:Qu)(h:qKy l=some x):DLs l (qKx x):=by
 unfold qKy at h
 split at h
 ·simp only[fo] at h
  obtain⟨x0,hx0,x1,hx1,x2,hx2,h⟩:=h
  cases h
  exact aB (vO hx0) (aB (bW hx1) (aB (aI hx2) (fJ)))
 ·cases h
def qKz(x:Cf):List (D TK):=[.sl 9 x.labels,.sl 67 x.queues]
def qK0:List (D TK)→Option Cf
 | y0::y1::[]=>(asL 9 y0).bind fun x0=>(asL 67 y1).bind fun x1=>some ⟨x0,x1⟩
 | _=>none
theorem qQQ(l:List (D TK))(x:Cf)(h:qK0 l=some x):DLs l (qKz x):=by
 unfold qK0 at h
 split at h
 ·simp only[fo] at h
  obtain⟨x0,hx0,x1,hx1,h⟩:=h
  cases h
  exact aB (bW hx0) (aB (bW hx1) (fJ))
 ·cases h
def qK1(x:Nd):List (D TK):=[.int .i64 x.id,.int .i64 x.label,.int .i64 x.rack,.int .i64 x.cap.mem,.int .i64 x.cap.cores,.int .i64 x.seen,.int .i64 x.beat,.bool x.up]
def qK2:List (D TK)→Option Nd
 | y0::y1::y2::y3::y4::y5::y6::y7::[]=>(asI y0).bind fun x0=>(asI y1).bind fun x1=>(asI y2).bind fun x2=>(asI y3).bind fun x3=>(asI y4).bind fun x4=>(asI y5).bind fun x5=>(asI y6).bind fun x6=>(asB y7).bind fun x7=>some ⟨x0,x1,x2,⟨x3,x4⟩,x5,x6,x7⟩
 | _=>none
theorem qQR(l:List (D TK))(x:Nd)(h:qK2 l=some x):DLs l (qK1 x):=by
 unfold qK2 at h
 split at h
 ·simp only[fo] at h
  obtain⟨x0,hx0,x1,hx1,x2,hx2,x3,hx3,x4,hx4,x5,hx5,x6,hx6,x7,hx7,h⟩:=h
  cases h
  exact aB (aI hx0) (aB (aI hx1) (aB (aI hx2) (aB (aI hx3) (aB (aI hx4) (aB (aI hx5) (aB (aI hx6) (aB (qGe hx7) (fJ))))))))
 ·cases h
def qK3(x:Ak):List (D TK):=[.int .i64 x.prio,.int .i64 x.label,.int .i64 x.size.mem,.int .i64 x.size.cores,.int .i64 x.count,.int .i64 x.node,.int .i64 x.rack,.int .i64 x.missed]
def qK4:List (D TK)→Option Ak
 | y0::y1::y2::y3::y4::y5::y6::y7::[]=>(asI y0).bind fun x0=>(asI y1).bind fun x1=>(asI y2).bind fun x2=>(asI y3).bind fun x3=>(asI y4).bind fun x4=>(asI y5).bind fun x5=>(asI y6).bind fun x6=>(asI y7).bind fun x7=>some ⟨x0,x1,⟨x2,x3⟩,x4,x5,x6,x7⟩
 | _=>none
theorem qQS(l:List (D TK))(x:Ak)(h:qK4 l=some x):DLs l (qK3 x):=by
 unfold qK4 at h
 split at h
 ·simp only[fo] at h
  obtain⟨x0,hx0,x1,hx1,x2,hx2,x3,hx3,x4,hx4,x5,hx5,x6,hx6,x7,hx7,h⟩:=h
  cases h
  exact aB (aI hx0) (aB (aI hx1) (aB (aI hx2) (aB (aI hx3) (aB (aI hx4) (aB (aI hx5) (aB (aI hx6) (aB (aI hx7) (fJ))))))))
 ·cases h
def qK5(x:Ap):List (D TK):=[.int .i64 x.id,.int .i64 x.state,.str x.queue,.int .i64 x.user,.int .i64 x.prio,.int .i64 x.master.mem,.int .i64 x.master.cores,.sl 51 x.asks,.int .i64 x.seen,.int .i64 x.beat,.sl 3 x.grants,.sl 3 x.kills,.sl 3 x.told,.sl 3 x.lost]
def qK6:List (D TK)→Option Ap
 | y0::y1::y2::y3::y4::y5::y6::y7::y8::y9::y10::y11::y12::y13::[]=>(asI y0).bind fun x0=>(asI y1).bind fun x1=>(asS y2).bind fun x2=>(asI y3).bind fun x3=>(asI y4).bind fun x4=>(asI y5).bind fun x5=>(asI y6).bind fun x6=>(asL 51 y7).bind fun x7=>(asI y8).bind fun x8=>(asI y9).bind fun x9=>(asL 3 y10).bind fun x10=>(asL 3 y11).bind fun x11=>(asL 3 y12).bind fun x12=>(asL 3 y13).bind fun x13=>some ⟨x0,x1,x2,x3,x4,⟨x5,x6⟩,x7,x8,x9,x10,x11,x12,x13⟩
 | _=>none
theorem qQT(l:List (D TK))(x:Ap)(h:qK6 l=some x):DLs l (qK5 x):=by
 unfold qK6 at h
 split at h
 ·simp only[fo] at h
  obtain⟨x0,hx0,x1,hx1,x2,hx2,x3,hx3,x4,hx4,x5,hx5,x6,hx6,x7,hx7,x8,hx8,x9,hx9,x10,hx10,x11,hx11,x12,hx12,x13,hx13,h⟩:=h
  cases h
  exact aB (aI hx0) (aB (aI hx1) (aB (vO hx2) (aB (aI hx3) (aB (aI hx4) (aB (aI hx5) (aB (aI hx6) (aB (bW hx7) (aB (aI hx8) (aB (aI hx9) (aB (bW hx10) (aB (bW hx11) (aB (bW hx12) (aB (bW hx13) (fJ))))))))))))))
 ·cases h
def qK7(x:Ct):List (D TK):=[.int .i64 x.id,.int .i64 x.app,.int .i64 x.node,.int .i64 x.size.mem,.int .i64 x.size.cores,.int .i64 x.prio,.int .i64 x.label,.bool x.master,.int .i64 x.notice]
def qK8:List (D TK)→Option Ct
 | y0::y1::y2::y3::y4::y5::y6::y7::y8::[]=>(asI y0).bind fun x0=>(asI y1).bind fun x1=>(asI y2).bind fun x2=>(asI y3).bind fun x3=>(asI y4).bind fun x4=>(asI y5).bind fun x5=>(asI y6).bind fun x6=>(asB y7).bind fun x7=>(asI y8).bind fun x8=>some ⟨x0,x1,x2,⟨x3,x4⟩,x5,x6,x7,x8⟩
 | _=>none
theorem qQU(l:List (D TK))(x:Ct)(h:qK8 l=some x):DLs l (qK7 x):=by
 unfold qK8 at h
 split at h
 ·simp only[fo] at h
  obtain⟨x0,hx0,x1,hx1,x2,hx2,x3,hx3,x4,hx4,x5,hx5,x6,hx6,x7,hx7,x8,hx8,h⟩:=h
  cases h
  exact aB (aI hx0) (aB (aI hx1) (aB (aI hx2) (aB (aI hx3) (aB (aI hx4) (aB (aI hx5) (aB (aI hx6) (aB (qGe hx7) (aB (aI hx8) (fJ)))))))))
 ·cases h
def qK9(x:Sl):List (D TK):=[.int .i64 x.node,.int .i64 x.app,.int .i64 x.prio]
def qKA:List (D TK)→Option Sl
 | y0::y1::y2::[]=>(asI y0).bind fun x0=>(asI y1).bind fun x1=>(asI y2).bind fun x2=>some ⟨x0,x1,x2⟩
 | _=>none
theorem qQV(l:List (D TK))(x:Sl)(h:qKA l=some x):DLs l (qK9 x):=by
 unfold qKA at h
 split at h
 ·simp only[fo] at h
  obtain⟨x0,hx0,x1,hx1,x2,hx2,h⟩:=h
  cases h
  exact aB (aI hx0) (aB (aI hx1) (aB (aI hx2) (fJ)))
 ·cases h
def qKB(x:Pn):List (D TK):=[.int .i64 x.id,.int .i64 x.label,.int .i64 x.start,.int .i64 x.stop,.int .i64 x.need.mem,.int .i64 x.need.cores]
def qKC:List (D TK)→Option Pn
 | y0::y1::y2::y3::y4::y5::[]=>(asI y0).bind fun x0=>(asI y1).bind fun x1=>(asI y2).bind fun x2=>(asI y3).bind fun x3=>(asI y4).bind fun x4=>(asI y5).bind fun x5=>some ⟨x0,x1,x2,x3,⟨x4,x5⟩⟩
 | _=>none
theorem qQW(l:List (D TK))(x:Pn)(h:qKC l=some x):DLs l (qKB x):=by
 unfold qKC at h
 split at h
 ·simp only[fo] at h
  obtain⟨x0,hx0,x1,hx1,x2,hx2,x3,hx3,x4,hx4,x5,hx5,h⟩:=h
  cases h
  exact aB (aI hx0) (aB (aI hx1) (aB (aI hx2) (aB (aI hx3) (aB (aI hx4) (aB (aI hx5) (fJ))))))
 ·cases h
def qKD(x:Se):List (D TK):=[.sl 9 x.conf.labels,.sl 67 x.conf.queues,.sl 41 x.nodes,.sl 44 x.apps,.sl 80 x.conts,.sl 83 x.slots,.sl 46 x.plans,.int .i64 x.now,.int .i64 x.epoch,.int .i64 x.seq]
def qKE:List (D TK)→Option Se
 | y0::y1::y2::y3::y4::y5::y6::y7::y8::y9::[]=>(asL 9 y0).bind fun x0=>(asL 67 y1).bind fun x1=>(asL 41 y2).bind fun x2=>(asL 44 y3).bind fun x3=>(asL 80 y4).bind fun x4=>(asL 83 y5).bind fun x5=>(asL 46 y6).bind fun x6=>(asI y7).bind fun x7=>(asI y8).bind fun x8=>(asI y9).bind fun x9=>some ⟨⟨x0,x1⟩,x2,x3,x4,x5,x6,x7,x8,x9⟩
 | _=>none
theorem qQX(l:List (D TK))(x:Se)(h:qKE l=some x):DLs l (qKD x):=by
 unfold qKE at h
 split at h
 ·simp only[fo] at h
  obtain⟨x0,hx0,x1,hx1,x2,hx2,x3,hx3,x4,hx4,x5,hx5,x6,hx6,x7,hx7,x8,hx8,x9,hx9,h⟩:=h
  cases h
  exact aB (bW hx0) (aB (bW hx1) (aB (bW hx2) (aB (bW hx3) (aB (bW hx4) (aB (bW hx5) (aB (bW hx6) (aB (aI hx7) (aB (aI hx8) (aB (aI hx9) (fJ))))))))))
 ·cases h
def qKF(x:Ip):List (D TK):=[.int .i64 x.kind,.int .i64 x.id,.int .i64 x.beat,.int .i64 x.n,.str x.text,.int .i64 x.node.id,.int .i64 x.node.label,.int .i64 x.node.rack,.int .i64 x.node.cap.mem,.int .i64 x.node.cap.cores,.int .i64 x.node.seen,.int .i64 x.node.beat,.bool x.node.up,.int .i64 x.app.id,.int .i64 x.app.state,.str x.app.queue,.int .i64 x.app.user,.int .i64 x.app.prio,.int .i64 x.app.master.mem,.int .i64 x.app.master.cores,.sl 51 x.app.asks,.int .i64 x.app.seen,.int .i64 x.app.beat,.sl 3 x.app.grants,.sl 3 x.app.kills,.sl 3 x.app.told,.sl 3 x.app.lost,.sl 51 x.asks,.sl 3 x.ids,.int .i64 x.plan.id,.int .i64 x.plan.label,.int .i64 x.plan.start,.int .i64 x.plan.stop,.int .i64 x.plan.need.mem,.int .i64 x.plan.need.cores]
def qKG:List (D TK)→Option Ip
 | y0::y1::y2::y3::y4::y5::y6::y7::y8::y9::y10::y11::y12::y13::y14::y15::y16::y17::y18::y19::y20::y21::y22::y23::y24::y25::y26::y27::y28::y29::y30::y31::y32::y33::y34::[]=>(asI y0).bind fun x0=>(asI y1).bind fun x1=>(asI y2).bind fun x2=>(asI y3).bind fun x3=>(asS y4).bind fun x4=>(asI y5).bind fun x5=>(asI y6).bind fun x6=>(asI y7).bind fun x7=>(asI y8).bind fun x8=>(asI y9).bind fun x9=>(asI y10).bind fun x10=>(asI y11).bind fun x11=>(asB y12).bind fun x12=>(asI y13).bind fun x13=>(asI y14).bind fun x14=>(asS y15).bind fun x15=>(asI y16).bind fun x16=>(asI y17).bind fun x17=>(asI y18).bind fun x18=>(asI y19).bind fun x19=>(asL 51 y20).bind fun x20=>(asI y21).bind fun x21=>(asI y22).bind fun x22=>(asL 3 y23).bind fun x23=>(asL 3 y24).bind fun x24=>(asL 3 y25).bind fun x25=>(asL 3 y26).bind fun x26=>(asL 51 y27).bind fun x27=>(asL 3 y28).bind fun x28=>(asI y29).bind fun x29=>(asI y30).bind fun x30=>(asI y31).bind fun x31=>(asI y32).bind fun x32=>(asI y33).bind fun x33=>(asI y34).bind fun x34=>some ⟨x0,x1,x2,x3,x4,⟨x5,x6,x7,⟨x8,x9⟩,x10,x11,x12⟩,⟨x13,x14,x15,x16,x17,⟨x18,x19⟩,x20,x21,x22,x23,x24,x25,x26⟩,x27,x28,⟨x29,x30,x31,x32,⟨x33,x34⟩⟩⟩
 | _=>none
theorem qQY(l:List (D TK))(x:Ip)(h:qKG l=some x):DLs l (qKF x):=by
 unfold qKG at h
 split at h
 ·simp only[fo] at h
  obtain⟨x0,hx0,x1,hx1,x2,hx2,x3,hx3,x4,hx4,x5,hx5,x6,hx6,x7,hx7,x8,hx8,x9,hx9,x10,hx10,x11,hx11,x12,hx12,x13,hx13,x14,hx14,x15,hx15,x16,hx16,x17,hx17,x18,hx18,x19,hx19,x20,hx20,x21,hx21,x22,hx22,x23,hx23,x24,hx24,x25,hx25,x26,hx26,x27,hx27,x28,hx28,x29,hx29,x30,hx30,x31,hx31,x32,hx32,x33,hx33,x34,hx34,h⟩:=h
  cases h
  exact aB (aI hx0) (aB (aI hx1) (aB (aI hx2) (aB (aI hx3) (aB (vO hx4) (aB (aI hx5) (aB (aI hx6) (aB (aI hx7) (aB (aI hx8) (aB (aI hx9) (aB (aI hx10) (aB (aI hx11) (aB (qGe hx12) (aB (aI hx13) (aB (aI hx14) (aB (vO hx15) (aB (aI hx16) (aB (aI hx17) (aB (aI hx18) (aB (aI hx19) (aB (bW hx20) (aB (aI hx21) (aB (aI hx22) (aB (bW hx23) (aB (bW hx24) (aB (bW hx25) (aB (bW hx26) (aB (bW hx27) (aB (bW hx28) (aB (aI hx29) (aB (aI hx30) (aB (aI hx31) (aB (aI hx32) (aB (aI hx33) (aB (aI hx34) (fJ)))))))))))))))))))))))))))))))))))
 ·cases h
def qKH(x:Ou):List (D TK):=[.int .i64 x.err,.sl 80 x.conts,.sl 3 x.ids,.sl 3 x.gone,.int .i64 x.n]
def qKI:List (D TK)→Option Ou
 | y0::y1::y2::y3::y4::[]=>(asI y0).bind fun x0=>(asL 80 y1).bind fun x1=>(asL 3 y2).bind fun x2=>(asL 3 y3).bind fun x3=>(asI y4).bind fun x4=>some ⟨x0,x1,x2,x3,x4⟩
 | _=>none
theorem qQZ(l:List (D TK))(x:Ou)(h:qKI l=some x):DLs l (qKH x):=by
 unfold qKI at h
 split at h
 ·simp only[fo] at h
  obtain⟨x0,hx0,x1,hx1,x2,hx2,x3,hx3,x4,hx4,h⟩:=h
  cases h
  exact aB (aI hx0) (aB (bW hx1) (aB (bW hx2) (aB (bW hx3) (aB (aI hx4) (fJ)))))
 ·cases h
def qKJ(x:Si):List (D TK):=[.str x.path,.int .i64 x.mem]
def qKK:List (D TK)→Option Si
 | y0::y1::[]=>(asS y0).bind fun x0=>(asI y1).bind fun x1=>some ⟨x0,x1⟩
 | _=>none
theorem qRa(l:List (D TK))(x:Si)(h:qKK l=some x):DLs l (qKJ x):=by
 unfold qKK at h
 split at h
 ·simp only[fo] at h
  obtain⟨x0,hx0,x1,hx1,h⟩:=h
  cases h
  exact aB (vO hx0) (aB (aI hx1) (fJ))
 ·cases h
def qKL(x:Lo):List (D TK):=[.str x.path,.int .i64 x.used.mem,.int .i64 x.used.cores,.int .i64 x.least.mem,.int .i64 x.least.cores]
def qKM:List (D TK)→Option Lo
 | y0::y1::y2::y3::y4::[]=>(asS y0).bind fun x0=>(asI y1).bind fun x1=>(asI y2).bind fun x2=>(asI y3).bind fun x3=>(asI y4).bind fun x4=>some ⟨x0,⟨x1,x2⟩,⟨x3,x4⟩⟩
 | _=>none
theorem qRb(l:List (D TK))(x:Lo)(h:qKM l=some x):DLs l (qKL x):=by
 unfold qKM at h
 split at h
 ·simp only[fo] at h
  obtain⟨x0,hx0,x1,hx1,x2,hx2,x3,hx3,x4,hx4,h⟩:=h
  cases h
  exact aB (vO hx0) (aB (aI hx1) (aB (aI hx2) (aB (aI hx3) (aB (aI hx4) (fJ)))))
 ·cases h
structure qS4(e:Nat) where
 k:Nat
 enc:TK e→List (D TK)
 dec:List (D TK)→Option (TK e)
 law:∀l x,dec l=some x→DLs l (enc x)
 len:∀x,(enc x).length=k
def qGk:(e:Nat)→qS4 e
 | 3=>⟨1,qGf,qGg,qPb,fun _=>rfl⟩
 | 5=>⟨1,qKt,qKu,qQN,fun _=>rfl⟩
 | 9=>⟨1,encStr,qGh,qPc,fun _=>rfl⟩
 | 25=>⟨2,qGi,qGj,qPh,fun _=>rfl⟩
 | 64=>⟨2,qKv,qKw,qQO,fun _=>rfl⟩
 | 67=>⟨3,qKx,qKy,qQP,fun _=>rfl⟩
 | 29=>⟨2,qKz,qK0,qQQ,fun _=>rfl⟩
 | 41=>⟨8,qK1,qK2,qQR,fun _=>rfl⟩
 | 51=>⟨8,qK3,qK4,qQS,fun _=>rfl⟩
 | 44=>⟨14,qK5,qK6,qQT,fun _=>rfl⟩
 | 80=>⟨9,qK7,qK8,qQU,fun _=>rfl⟩
 | 83=>⟨3,qK9,qKA,qQV,fun _=>rfl⟩
 | 46=>⟨6,qKB,qKC,qQW,fun _=>rfl⟩
 | 36=>⟨10,qKD,qKE,qQX,fun _=>rfl⟩
 | 48=>⟨35,qKF,qKG,qQY,fun _=>rfl⟩
 | 55=>⟨5,qKH,qKI,qQZ,fun _=>rfl⟩
 | 278=>⟨2,qKJ,qKK,qRa,fun _=>rfl⟩
 | 368=>⟨5,qKL,qKM,qRb,fun _=>rfl⟩
 | _=>⟨0,fun _=>[],fun _=>none,fun _ _ h=>(by cases h),fun _=>rfl⟩
def qRc(e:Nat):Bool:=Nat.beq e 5
structure qRd(e:Nat) where
 toS:List (TK e)→List UInt8
 ofS:List UInt8→List (TK e)
def qOn:(e:Nat)→qRd e
 | 5=>⟨dn,up⟩
 | _=>⟨fun _=>[],fun _=>[]⟩
theorem qA0{e:Nat}(h:qRc e=true):e=5:=cz h
def aC:Reg where
 hint:=[67,44,48]
 T:=TK
 has e:=(qPa e).has
 k e:=(qGk e).k
 dflt e:=(qPa e).dflt
 enc e:=(qGk e).enc
 dec e:=(qGk e).dec
 isB:=qRc
 toS e:=(qOn e).toS
 ofS e:=(qOn e).ofS
 law e:=(qGk e).law
 len e:=(qGk e).len
 toS_len e xs h:=by have:= qA0 h;subst this;exact qPe xs
 toS_get e xs r h hr:=by have:= qA0 h;subst this;exact⟨_,rfl,qPf hr⟩
 ofS_len e s h:=by have:= qA0 h;subst this;exact qPd s
 ofS_get e s r h _:=by have:= qA0 h;subst this;exact congrArg (fun n:Int=>[D.int IntKind.u8 n]) (qPg s r)
 Tab:=fun _=>True
abbrev VK:=V aC.T
abbrev TB:=List VK→Hp aC.T→Out (VK×Hp aC.T)
abbrev w64(n:Int):Int:=IntKind.i64.wrap n
theorem mixed:Tryz.prog.follows .mixedOrders=true:=by kernel_rfl
theorem qRe:(Tryz.prog.funcs.toList.all fun fn=>fn.body.isNone||!(fn.name == "runtime.NumGoroutine"))=true:=by kernel_rfl
theorem hno:∀(f:FuncId) fn,Tryz.prog.funcs[f]? = some fn→fn.body.isNone=false→(fn.name == "runtime.NumGoroutine")=false:=by
 intro f fn h hb
 have:= ek.1 qRe fn (by rw[qh];exact qd h)
 rw[hb] at this
 simpa using this
theorem there(f:Nat)(h:(match Tryz.prog.funcs[f]? with | some fn=>!fn.body.isNone | none=>false)=true):There Tryz.prog f:=by
 split at h
 ·rename_i fn hfn
  have hb:fn.body.isNone=false:=by simpa using h
  exact⟨fn,hfn,hno f fn hfn hb,hb⟩
 ·cases h
def aN(f:FuncId)(S:TB):Prop:=∀args h Q,(S args h).K Q→There Tryz.prog f∧∀N F φ w cargs,(∀r,Q r→bX N h.nx r.2.nx)→HR N F φ h w→eF F w φ args cargs→Calls Tryz.prog f cargs w (bY N F φ h w Q)
abbrev Ka:=Cs aC
def con(ka kr:List Kd)(pre:Ka ka→Bool)(M:Ka ka→Ka kr)(hk:ka.all bK=true):TB:=(uR aC ka kr pre M).con (xC ka kr pre M hk)
def tree(hd:Hd aC.T)(L J:Nat→St aC.T→Option (List Ld))(f:Nat)(ka kr:List Kd)(a:Ka ka):DT (Ka kr):=match Tryz.prog.funcs[f]? with
 | some fn=>qDz aC Tryz.prog hd 1000 L J fn (uI aC ka a) ⟨.e,0,[]⟩ (qIF aC kr)
 | none=>.bad
theorem row_of{hd:Hd aC.T}(hHd:bT Tryz.prog hd){L J:Nat→St aC.T→Option (List Ld)}{f:Nat}(ht:(match Tryz.prog.funcs[f]? with | some fn=>!fn.body.isNone | none=>false)=true){ka kr:List Kd}(hk:ka.all bK=true)(hkr:kr.all bK=true){pre:Ka ka→Bool}{M:Ka ka→Ka kr}
  (h:∀a,pre a=true→(tree hd L J f ka kr a).G (M a)):aN f (con ka kr pre M hk):=by
 obtain⟨fn,hfn⟩:∃fn,Tryz.prog.funcs[f]? = some fn:=by
  split at ht
  ·rename_i fn h;exact⟨fn,h⟩
  ·cases ht
 refine Spec.gN (qIG (fuel:=1000) (L:=L) (J:=J) mixed hHd hfn (there f ht) hkr fun a ha=>?_) (xC ka kr pre M hk) (fun _=>di _)
 have:= h a ha
 unfold tree at this
 rw[hfn] at this
 exact this
def hd0:Hd aC.T:=hdT aC Tryz.prog (fun _=>none) (fun _=>false) 1000 5
theorem qKN:bT Tryz.prog hd0:=iJ mixed hno (fun f S h=>by cases h) _ _ _
def ljT:List (Nat×(St aC.T→List Ld))→Nat→St aC.T→Option (List Ld)
 | [],_,_=>none
 | (i,x)::l,j,st=>(match Nat.beq i j with | true=>some (x st) | false=>ljT l j st)
abbrev si(t:Nat):Ld:=.slot t (.int .i64)
end Go.Proofs.YtclpnndkhbnaoaaGreatDoor
namespace Go.W
open Go
section
variable {α ρ σ β:Type}
@[simp] theorem qTu{a x:α}:(DT.ret a).G x↔a=x:=Iff.rfl
@[simp] theorem qB0{b:Bool}{t:DT α}{x:α}:(DT.need b t).G x↔b=true∧t.G x:=aK _ _
@[simp] theorem qTv{b:Bool}{t u:DT α}{x:α}:(DT.br b t u).G x↔(b=true→t.G x)∧(b=false→u.G x):=qKb
theorem aF{b:Bool}{t:DT α}{x:α}(h:b=true)(ht:t.G x):(DT.need b t).G x:=qB0.2 ⟨h,ht⟩
theorem bA{b:Bool}{t u:DT α}{x:α}(h:b=true)(ht:t.G x):(DT.br b t u).G x:=by subst h;exact ht
theorem aM{b:Bool}{t u:DT α}{x:α}(h:b=false)(ht:u.G x):(DT.br b t u).G x:=by subst h;exact ht
theorem qCg{b:Bool}{t u:DT α}{x:α}(h1:b=true→t.G x)(h2:b=false→u.G x):(DT.br b t u).G x:=qKb.2 ⟨h1,h2⟩
@[simp] theorem qMG{i n:Int}:ixB i n=true↔0≤i∧i<n:=by simp[ixB]
@[simp] theorem qRf{n b:Nat}:dB n b=true↔n*b≤140737488355328∧n≤9223372036854775807:=by simp[dB]
@[simp] theorem qMH{l u n:Int}:inB l u n=true↔0≤l∧l≤u∧u≤n:=by simp[inB,and_assoc]
@[simp] theorem qSt{l u n:Int}:slB l u n=true↔0≤l∧l≤u∧u≤n:=by simp[slB,qMH]
@[simp] theorem qB1(l:List α):dK 0 l.length l=l:=by simp[dK]
@[simp] theorem qTx{a b:Nat}:Nat.beq a b=true↔a=b:=by rw[Nat.beq_eq]
@[simp] theorem qS5{a b:Nat}:Nat.ble a b=true↔a≤b:=by rw[Nat.ble_eq]
def scan(f:β→α→β ⊕ ρ)(fin:β→ρ):List α→β→ρ
 | [],b=>fin b
 | a::l,b=>(match f b a with | .inl b'=>scan f fin l b' | .inr r=>r)
theorem qOo(l:List α)(d:α)(enc:Int→β→σ){body:σ→DT (σ ⊕ ρ)}(f:β→α→β ⊕ ρ)(fin:β→ρ)(I:Nat→β→Prop)
  (hstep:∀(i:Nat) (b:β),i<l.length→I i b→match f b (l.getD i d) with | .inl b'=>I (i+1) b'∧(body (enc (i:Int) b)).G (.inl (enc ((i+1:Nat):Int) b')) | .inr r=>(body (enc (i:Int) b)).G (.inr r))
  (hend:∀b,I l.length b→(body (enc (l.length:Int) b)).G (.inr (fin b))) {b0:β} (h0:I 0 b0) {x:ρ} (hx:scan f fin l b0=x):(DT.loop (enc 0 b0) body).G x:=by
 have key:∀(n i:Nat) (b:β),l.length-i<n→i≤l.length→I i b→scan f fin (l.drop i) b=x→DT.rM (fun s y=>(body s).G y) n (enc (i:Int) b) x:=by
  intro n
  induction n with
  | zero=>intro i b h;omega
  | succ n ih =>
   intro i b hn hi hI hs
   rcases ja i l.length with hlt | hge
   ·have hd:l.drop i=l.getD i d::l.drop (i+1):=by
     rw[oh hlt]
     simp[List.getD,hlt]
    rw[hd] at hs
    have h1:=hstep i b hlt hI
    simp only[scan] at hs
    cases hf:f b (l.getD i d) with
    | inl b' =>
     rw[hf] at h1 hs
     exact⟨_,h1.2,ih (i+1) b' (by omega) hlt h1.1 hs⟩
    | inr r =>
     rw[hf] at h1 hs
     exact⟨_,h1,hs⟩
   ·have hi':i=l.length:=by omega
    subst hi'
    rw[List.drop_length] at hs
    exact⟨_,hend b hI,hs⟩
 exact DT.lK.2 ⟨_,key _ 0 b0 (l8 _) (di _) h0 (by simpa using hx)⟩
def qCH(f:Nat→β→α→β ⊕ ρ)(fin:Nat→β→ρ):Nat→List α→β→ρ
 | i,[],b=>fin i b
 | i,a::l,b=>(match f i b a with | .inl b'=>qCH f fin (i+1) l b' | .inr r=>r)
theorem qPi(l:List α)(d:α)(enc:Int→β→σ){body:σ→DT (σ ⊕ ρ)}(f:Nat→β→α→β ⊕ ρ)(fin:Nat→β→ρ)(I:Nat→β→Prop)
  (hstep:∀(i:Nat) (b:β),i<l.length→I i b→match f i b (l.getD i d) with | .inl b'=>I (i+1) b'∧(body (enc (i:Int) b)).G (.inl (enc ((i+1:Nat):Int) b')) | .inr r=>(body (enc (i:Int) b)).G (.inr r))
  (hend:∀b,I l.length b→(body (enc (l.length:Int) b)).G (.inr (fin l.length b))) {b0:β} (h0:I 0 b0) {x:ρ} (hx:qCH f fin 0 l b0=x):(DT.loop (enc 0 b0) body).G x:=by
 have key:∀(n i:Nat) (b:β),l.length-i<n→i≤l.length→I i b→qCH f fin i (l.drop i) b=x→DT.rM (fun s y=>(body s).G y) n (enc (i:Int) b) x:=by
  intro n
  induction n with
  | zero=>intro i b h;omega
  | succ n ih =>
   intro i b hn hi hI hs
   rcases ja i l.length with hlt | hge
   ·have hd:l.drop i=l.getD i d::l.drop (i+1):=by
     rw[oh hlt]
     simp[List.getD,hlt]
    rw[hd] at hs
    have h1:=hstep i b hlt hI
    simp only[qCH] at hs
    cases hf:f i b (l.getD i d) with
    | inl b' =>
     rw[hf] at h1 hs
     exact⟨_,h1.2,ih (i+1) b' (by omega) hlt h1.1 hs⟩
    | inr r =>
     rw[hf] at h1 hs
     exact⟨_,h1,hs⟩
   ·have hi':i=l.length:=by omega
    subst hi'
    rw[List.drop_length] at hs
    exact⟨_,hend b hI,hs⟩
 exact DT.lK.2 ⟨_,key _ 0 b0 (l8 _) (di _) h0 (by simpa using hx)⟩
theorem bH{t:DT (σ ⊕ α)}{k:σ→DT α}{x:α}(s:σ)(h1:t.G (.inl s))(h2:(k s).G x):(DT.join t k).G x:=DT.iM.2 ⟨.inl s,h1,h2⟩
theorem qMI{t:DT (σ ⊕ α)}{k:σ→DT α}{x:α}(h1:t.G (.inr x)):(DT.join t k).G x:=DT.iM.2 ⟨.inr x,h1,rfl⟩
@[simp] theorem qS6{b:Bool}{t:DT (σ ⊕ α)}{k:σ→DT α}{x:α}:(DT.join (DT.need b t) k).G x↔b=true∧(DT.join t k).G x:=by
 rw[DT.iM,DT.iM]
 exact⟨fun⟨y,h1,h2⟩=>⟨(qB0.1 h1).1,y,(qB0.1 h1).2,h2⟩,fun⟨h0,y,h1,h2⟩=>⟨y,qB0.2 ⟨h0,h1⟩,h2⟩⟩
@[simp] theorem qTy{b:Bool}{t u:DT (σ ⊕ α)}{k:σ→DT α}{x:α}:(DT.join (DT.br b t u) k).G x↔(b=true→(DT.join t k).G x)∧(b=false→(DT.join u k).G x):=by
 cases b with
 | true=>exact⟨fun h=>⟨fun _=>h,fun e=>(by cases e)⟩,fun h=>h.1 rfl⟩
 | false=>exact⟨fun h=>⟨fun e=>(by cases e),fun _=>h⟩,fun h=>h.2 rfl⟩
@[simp] theorem mV{s:σ}{k:σ→DT α}{x:α}:(DT.join (DT.ret (.inl s)) k).G x↔(k s).G x:=by
 rw[DT.iM]
 exact⟨fun⟨y,h1,h2⟩=>by have h1:Sum.inl s=y:=h1;subst h1;exact h2,fun h=>⟨.inl s,rfl,h⟩⟩
@[simp] theorem qTw{a:α}{k:σ→DT α}{x:α}:(DT.join (DT.ret (.inr a)) k).G x↔a=x:=by
 rw[DT.iM]
 exact⟨fun⟨y,h1,h2⟩=>by have h1:Sum.inr a=y:=h1;subst h1;exact h2,fun h=>⟨.inr a,rfl,h⟩⟩
@[simp] theorem zB(k:Nat)(l:List α):eH 0 k l=l.take k:=by simp[eH]
@[simp] theorem qRg(k:Nat)(l:List α):eH k l.length l=l.drop k:=by simp[eH]
theorem qEH(p:α→Bool)(g:Nat→ρ):∀(l:List α) (i:Nat),qCH (fun i (_:Unit) a=>bif p a then .inl () else .inr (g i)) (fun i _=>g i) i l ()=g (i+(l.takeWhile p).length)
 | [],i=>rfl
 | a::l,i=>by
  simp only[qCH,List.takeWhile]
  cases p a with
  | true=>simp only[cond_true,qEH p g l,j5];congr 1;omega
  | false=>rfl
theorem qHp(p:α→Bool):∀l:List α,l.take (l.takeWhile p).length=l.takeWhile p∧l.drop (l.takeWhile p).length=l.dropWhile p
 | []=>⟨rfl,rfl⟩
 | a::l=>by
  simp only[List.takeWhile,List.dropWhile]
  cases p a with
  | true=>simp[(qHp p l).1,(qHp p l).2]
  | false=>simp
@[simp] theorem gG(n:Nat):Nat.ble n n=true:=fw (dh n)
@[simp] theorem dF(n:Nat):Nat.beq n n=true:=jq n
def runK{σ α:Type}(o:Option (σ ⊕ α))(k:σ→Option α):Option α:=match o with
 | some (.inl s)=>k s
 | some (.inr a)=>some a
 | none=>none
@[simp] theorem qB2{s:σ}{k:σ→Option α}:runK (some (Sum.inl s)) k=k s:=rfl
@[simp] theorem qB3{a:α}{k:σ→Option α}:runK (some (Sum.inr a)) k=some a:=rfl
@[simp] theorem qQ1{k:σ→Option α}:runK none k=none:=rfl
def DT.run:{α:Type}→DT α→Option α
 | _,.ret a=>some a
 | _,.need b t=>bif b then t.run else none
 | _,.br b t u=>bif b then t.run else u.run
 | _,.both _ _=>none
 | _,.bad=>none
 | _,.loop _ _=>none
 | _,.join t k=>runK t.run fun s=>(k s).run
 termination_by structural _ t=>t
@[simp] theorem tL{a:α}:(DT.ret a).run=some a:=rfl
@[simp] theorem xJ{b:Bool}{t:DT α}:(DT.need b t).run=bif b then t.run else none:=rfl
@[simp] theorem zC{b:Bool}{t u:DT α}:(DT.br b t u).run=bif b then t.run else u.run:=rfl
@[simp] theorem qB4{t:DT (σ ⊕ α)}{k:σ→DT α}:(DT.join t k).run=runK t.run fun s=>(k s).run:=rfl
theorem qCI:∀{α:Type} {t:DT α} {x:α},t.run=some x→t.G x:=by
 intro α t
 induction t with
 | ret a=>intro x h;cases h;rfl
 | need b t ih =>
  intro x h
  cases b with
  | true=>exact qB0.2 ⟨rfl,ih h⟩
  | false=>cases h
 | br b t u iht ihu =>
  intro x h
  cases b with
  | true=>exact iht h
  | false=>exact ihu h
 | both t u _ _=>intro x h;cases h
 | bad=>intro x h;cases h
 | loop s body ih=>intro x h;cases h
 | join t k iht ihk =>
  intro x h
  rw[qB4] at h
  unfold runK at h
  split at h
  ·rename_i s hs;exact bH s (iht hs) (ihk s h)
  ·rename_i a hs;cases h;exact qMI (iht hs)
  ·cases h
theorem qCJ(p:α→Bool)(g:α→ρ)(e:ρ):∀l:List α,scan (fun(_:Unit) a=>bif p a then .inr (g a) else .inl ()) (fun _=>e) l ()=(match l.find? p with | some a=>g a | none=>e)
 | []=>rfl
 | a::l=>by
  simp only[scan,List.find?]
  cases p a with
  | true=>rfl
  | false=>exact qCJ p g e l
theorem qCK(g:β→α→β)(fin:β→ρ):∀(l:List α) (b:β),scan (fun b a=>.inl (g b a)) fin l b=fin (l.foldl g b)
 | [],b=>rfl
 | a::l,b=>by simp only[scan,List.foldl];exact qCK g fin l (g b a)
end
theorem sS:(type_of% @xJ)∧(type_of% @zC)∧(type_of% @tL)∧(type_of% @qB4)∧(type_of% @qB2)∧(type_of% @qB3)∧(type_of% @cond_true.{1})∧(type_of% @cond_false.{1})∧(type_of% gp)∧(type_of% ou)∧(type_of% q8)∧(type_of% Bool.false_or)∧(type_of% Bool.true_or)∧(type_of% Bool.or_false)∧(type_of% oq)∧(type_of% Bool.false_and)∧(type_of% ed)∧(type_of% @fe)∧(type_of% @qB1)∧(type_of% @zB)∧(type_of% @jd.{0})∧(type_of% @gG)∧(type_of% @dF)∧(type_of% @ji.{0})∧(type_of% @j5.{0})∧(type_of% @qm.{0})∧(type_of% @oz.{0}) :=
 ⟨@xJ,@zC,@tL,@qB4,@qB2,@qB3,@cond_true.{1},@cond_false.{1},gp,ou,q8,Bool.false_or,Bool.true_or,Bool.or_false,oq,Bool.false_and,ed,@fe,@qB1,@zB,@jd.{0},@gG,@dF,@ji.{0},@j5.{0},@qm.{0},@oz.{0}⟩
end Go.W
namespace Go.Proofs.YtclpnndkhbnaoaaGreatDoor
open Go Go.W Go.Proofs
open Go.W.DT (ret need br bad loop join)
set_option maxRecDepth 100000
def qEI:=ljT [(2,fun st=>[si 6])]
def qB5(s:Se)(id:Int):DT (Ap×Bool×Unit) :=
 let +zeta a:=(↑s.apps.length:Int);loop (0,()) fun(p:Int×Unit) =>let +zeta b:=s.apps.getD (Int.toNat p.1) dAp;br (decide (p.1<a)) (need (ixB p.1 a) (br (b.id==id) (need (ixB p.1 a) (ret (Sum.inr (b,true,())))) (ret (Sum.inl (w64 (p.1+1),()))))) (ret (Sum.inr (dAp,false,())))

theorem qKO(s:Se)(id:Int)(r:(Ap×Bool×Unit)):(tree hd0 qEI noL 9 [.rcd 36,.int .i64] [.rcd 44,.bool] (s,id,())).G r=(qB5 s id).G r:=by kernel_rfl
end Go.Proofs.YtclpnndkhbnaoaaGreatDoor
