/- Part of the proof. No conditions. -/
import Derived.Test.YtehpnjmgjmkjaaaGreatDoorVg
import Derived.Test.YtehpnjmgjmkjaaaGreatDoorProg
noncomputable section
namespace Go.Proofs.YtehpnjmgjmkjaaaGreatDoor
open Go Go.W Go.Proofs
set_option maxRecDepth 100000
abbrev B:=List UInt8
structure Vec where
 mem:Int
 cores:Int
 deriving DecidableEq
structure Cp where
 least:Int
 most:Int
 deriving DecidableEq
structure Qu where
 path:B
 caps:List Cp
 user:Int
 deriving DecidableEq
structure Cf where
 labels:List B
 queues:List Qu
 deriving DecidableEq
structure Nd where
 id:Int
 label:Int
 rack:Int
 cap:Vec
 seen:Int
 beat:Int
 up:Bool
 deriving DecidableEq
structure Ak where
 prio:Int
 label:Int
 size:Vec
 count:Int
 node:Int
 rack:Int
 missed:Int
 deriving DecidableEq
structure Ap where
 id:Int
 state:Int
 queue:B
 user:Int
 prio:Int
 master:Vec
 asks:List Ak
 seen:Int
 beat:Int
 grants:List Int
 kills:List Int
 told:List Int
 lost:List Int
 deriving DecidableEq
structure Ct where
 id:Int
 app:Int
 node:Int
 size:Vec
 prio:Int
 label:Int
 master:Bool
 notice:Int
 deriving DecidableEq
structure Sl where
 node:Int
 app:Int
 prio:Int
 deriving DecidableEq
structure Pn where
 id:Int
 label:Int
 start:Int
 stop:Int
 need:Vec
 deriving DecidableEq
structure Se where
 conf:Cf
 nodes:List Nd
 apps:List Ap
 conts:List Ct
 slots:List Sl
 plans:List Pn
 now:Int
 epoch:Int
 seq:Int
 deriving DecidableEq
structure Ip where
 kind:Int
 id:Int
 beat:Int
 n:Int
 text:B
 node:Nd
 app:Ap
 asks:List Ak
 ids:List Int
 plan:Pn
 deriving DecidableEq
structure Ou where
 err:Int
 conts:List Ct
 ids:List Int
 gone:List Int
 n:Int
 deriving DecidableEq
structure Sh where
 path:B
 mem:Int
 deriving DecidableEq
structure Fr where
 a:Int
 p:Int
 deriving DecidableEq
structure Act where
 kind:Int
 a:Int
 b:Int
 c:Int
 d:Int
 deriving DecidableEq
structure Scr where
 shape:Int
 ns:List Int
 acts:List Act
 deriving DecidableEq
def gG:Vec:=⟨0,0⟩
def dCp:Cp:=⟨0,0⟩
def dQu:Qu:=⟨[],[],0⟩
def dCf:Cf:=⟨[],[]⟩
def dNd:Nd:=⟨0,0,0,gG,0,0,false⟩
def dAk:Ak:=⟨0,0,gG,0,0,0,0⟩
def dAp:Ap:=⟨0,0,[],0,0,gG,[],0,0,[],[],[],[]⟩
def dCt:Ct:=⟨0,0,0,gG,0,0,false,0⟩
def dSl:Sl:=⟨0,0,0⟩
def dPn:Pn:=⟨0,0,0,0,gG⟩
def dSe:Se:=⟨dCf,[],[],[],[],[],0,0,0⟩
def dIp:Ip:=⟨0,0,0,0,[],dNd,dAp,[],[],dPn⟩
def dOu:Ou:=⟨0,[],[],[],0⟩
def dSh:Sh:=⟨[],0⟩
def dFr:Fr:=⟨0,0⟩
def qUX:Act:=⟨0,0,0,0,0⟩
def zM1:Scr:=⟨0,[],[]⟩
structure zM2 where
 T:Type
 dflt:T
 has:Bool
def zJp:Nat→zM2
 | 3=>⟨Int,0,true⟩
 | 5=>⟨Int,0,true⟩
 | 9=>⟨B,[],true⟩
 | 27=>⟨Vec,gG,true⟩
 | 111=>⟨Cp,dCp,true⟩
 | 114=>⟨Qu,dQu,true⟩
 | 32=>⟨Cf,dCf,true⟩
 | 57=>⟨Nd,dNd,true⟩
 | 95=>⟨Ak,dAk,true⟩
 | 47=>⟨Ap,dAp,true⟩
 | 50=>⟨Ct,dCt,true⟩
 | 85=>⟨Sl,dSl,true⟩
 | 59=>⟨Pn,dPn,true⟩
 | 39=>⟨Se,dSe,true⟩
 | 61=>⟨Ip,dIp,true⟩
 | 53=>⟨Ou,dOu,true⟩
 | 285=>⟨Sh,dSh,true⟩
 | 467=>⟨Fr,dFr,true⟩
 | 72=>⟨Act,qUX,true⟩
 | 25=>⟨Scr,zM1,true⟩
 | _=>⟨Unit,(),false⟩
def TK(e:Nat):Type:=(zJp e).T
def asI:D TK→Option Int
 | .int .i64 x=>some x
 | _=>none
def asB:D TK→Option Bool
 | .bool x=>some x
 | _=>none
def asS:D TK→Option B
 | .str x=>some x
 | _=>none
def asL(e:Nat):D TK→Option (List (TK e))
 | .sl _e' xs=>qBk xs e
 | .nils=>some []
 | _=>none
theorem aW{d:D TK}{x:Int}(h:asI d=some x):DLe d (.int .i64 x):=by
 unfold asI at h
 split at h
 ·cases h;exact .inl rfl
 ·cases h
theorem qUY{d:D TK}{x:Bool}(h:asB d=some x):DLe d (.bool x):=by
 unfold asB at h
 split at h
 ·cases h;exact .inl rfl
 ·cases h
theorem qGv{d:D TK}{x:B}(h:asS d=some x):DLe d (.str x):=by
 unfold asS at h
 split at h
 ·cases h;exact .inl rfl
 ·cases h
theorem fZ{e:Nat}{d:D TK}{x:List (TK e)}(h:asL e d=some x):DLe d (.sl e x):=by
 unfold asL at h
 split at h
 ·exact .inl (qB0 h).1.symm
 ·cases h;exact .inr ⟨rfl,.inl ⟨e,rfl⟩⟩
 ·cases h
def DLs(l m:List (D TK)):Prop:=m.length=l.length∧∀j,DLe (l.getD j .nilp) (m.getD j .nilp)
theorem jI:DLs [] []:=⟨rfl,fun _=>.inl rfl⟩
theorem aJ{x y:D TK}{l m:List (D TK)}(h:DLe x y)(hl:DLs l m):DLs (x::l) (y::m) :=
 ⟨by simp[hl.1],fun j=>by cases j with | zero=>exact h | succ j=>simpa using hl.2 j⟩
def qUZ(x:Int):List (D TK):=[.int .i64 x]
def zCu(x:Int):List (D TK):=[.int .u8 x]
def encStr(x:B):List (D TK):=[.str x]
def qVa:List (D TK)→Option Int
 | [d]=>asI d
 | _=>none
def zCv:List (D TK)→Option Int
 | [.int .u8 n]=>some n
 | _=>none
def qVb:List (D TK)→Option B
 | [d]=>asS d
 | _=>none
theorem zJq(l:List (D TK))(x:Int)(h:qVa l=some x):DLs l (qUZ x):=by
 unfold qVa at h
 split at h
 ·exact aJ (aW h) jI
 ·cases h
theorem zJr(l:List (D TK))(x:B)(h:qVb l=some x):DLs l (encStr x):=by
 unfold qVb at h
 split at h
 ·exact aJ (qGv h) jI
 ·cases h
theorem zLo(l:List (D TK))(x:Int)(h:zCv l=some x):DLs l (zCu x):=by
 unfold zCv at h
 split at h
 ·cases h;exact aJ (.inl rfl) jI
 ·cases h
def up(s:B):List Int:=s.map fun c=>(c.toNat:Int)
def dn(xs:List Int):B:=xs.map fun n=>UInt8.ofNat n.toNat
theorem zJs(s:B):(up s).length=s.length:=by simp[up]
theorem zJt(xs:List Int):(dn xs).length=xs.length:=by simp[dn]
theorem zJu{xs:List Int}{r:Nat}(h:r<xs.length):(dn xs).getD r 0=UInt8.ofNat (xs.getD r 0).toNat:=by
 simp[dn,List.getD,h]
theorem zJv(s:B)(r:Nat):(up s).getD r 0=((s.getD r 0).toNat:Int):=by
 rcases Nat.lt_or_ge r s.length with h | h
 ·simp[up,List.getD,h]
 ·simp[up,List.getD,h]
def qVc(x:Vec):List (D TK):=[.int .i64 x.mem,.int .i64 x.cores]
def qVd:List (D TK)→Option Vec
 | y0::y1::[]=>(asI y0).bind fun x0=>(asI y1).bind fun x1=>some ⟨x0,x1⟩
 | _=>none
theorem zJw(l:List (D TK))(x:Vec)(h:qVd l=some x):DLs l (qVc x):=by
 unfold qVd at h
 split at h
 ·simp only[Option.bind_eq_some_iff] at h
  obtain⟨x0,hx0,x1,hx1,h⟩:=h
  cases h
  exact aJ (aW hx0) (aJ (aW hx1) (jI))
 ·cases h
def zCw(x:Cp):List (D TK):=[.int .i64 x.least,.int .i64 x.most]
def zCx:List (D TK)→Option Cp
 | y0::y1::[]=>(asI y0).bind fun x0=>(asI y1).bind fun x1=>some ⟨x0,x1⟩
 | _=>none
theorem zLp(l:List (D TK))(x:Cp)(h:zCx l=some x):DLs l (zCw x):=by
 unfold zCx at h
 split at h
 ·simp only[Option.bind_eq_some_iff] at h
  obtain⟨x0,hx0,x1,hx1,h⟩:=h
  cases h
  exact aJ (aW hx0) (aJ (aW hx1) (jI))
 ·cases h
def zCy(x:Qu):List (D TK):=[.str x.path,.sl 111 x.caps,.int .i64 x.user]
def zCz:List (D TK)→Option Qu
 | y0::y1::y2::[]=>(asS y0).bind fun x0=>(asL 111 y1).bind fun x1=>(asI y2).bind fun x2=>some ⟨x0,x1,x2⟩
 | _=>none
theorem zLq(l:List (D TK))(x:Qu)(h:zCz l=some x):DLs l (zCy x):=by
 unfold zCz at h
 split at h
 ·simp only[Option.bind_eq_some_iff] at h
  obtain⟨x0,hx0,x1,hx1,x2,hx2,h⟩:=h
  cases h
  exact aJ (qGv hx0) (aJ (fZ hx1) (aJ (aW hx2) (jI)))
 ·cases h
def zC0(x:Cf):List (D TK):=[.sl 9 x.labels,.sl 114 x.queues]
def zC1:List (D TK)→Option Cf
 | y0::y1::[]=>(asL 9 y0).bind fun x0=>(asL 114 y1).bind fun x1=>some ⟨x0,x1⟩
 | _=>none
theorem zLr(l:List (D TK))(x:Cf)(h:zC1 l=some x):DLs l (zC0 x):=by
 unfold zC1 at h
 split at h
 ·simp only[Option.bind_eq_some_iff] at h
  obtain⟨x0,hx0,x1,hx1,h⟩:=h
  cases h
  exact aJ (fZ hx0) (aJ (fZ hx1) (jI))
 ·cases h
def zC2(x:Nd):List (D TK):=[.int .i64 x.id,.int .i64 x.label,.int .i64 x.rack,.int .i64 x.cap.mem,.int .i64 x.cap.cores,.int .i64 x.seen,.int .i64 x.beat,.bool x.up]
def zC3:List (D TK)→Option Nd
 | y0::y1::y2::y3::y4::y5::y6::y7::[]=>(asI y0).bind fun x0=>(asI y1).bind fun x1=>(asI y2).bind fun x2=>(asI y3).bind fun x3=>(asI y4).bind fun x4=>(asI y5).bind fun x5=>(asI y6).bind fun x6=>(asB y7).bind fun x7=>some ⟨x0,x1,x2,⟨x3,x4⟩,x5,x6,x7⟩
 | _=>none
theorem zLs(l:List (D TK))(x:Nd)(h:zC3 l=some x):DLs l (zC2 x):=by
 unfold zC3 at h
 split at h
 ·simp only[Option.bind_eq_some_iff] at h
  obtain⟨x0,hx0,x1,hx1,x2,hx2,x3,hx3,x4,hx4,x5,hx5,x6,hx6,x7,hx7,h⟩:=h
  cases h
  exact aJ (aW hx0) (aJ (aW hx1) (aJ (aW hx2) (aJ (aW hx3) (aJ (aW hx4) (aJ (aW hx5) (aJ (aW hx6) (aJ (qUY hx7) (jI))))))))
 ·cases h
def zC4(x:Ak):List (D TK):=[.int .i64 x.prio,.int .i64 x.label,.int .i64 x.size.mem,.int .i64 x.size.cores,.int .i64 x.count,.int .i64 x.node,.int .i64 x.rack,.int .i64 x.missed]
def zC5:List (D TK)→Option Ak
 | y0::y1::y2::y3::y4::y5::y6::y7::[]=>(asI y0).bind fun x0=>(asI y1).bind fun x1=>(asI y2).bind fun x2=>(asI y3).bind fun x3=>(asI y4).bind fun x4=>(asI y5).bind fun x5=>(asI y6).bind fun x6=>(asI y7).bind fun x7=>some ⟨x0,x1,⟨x2,x3⟩,x4,x5,x6,x7⟩
 | _=>none
theorem zLt(l:List (D TK))(x:Ak)(h:zC5 l=some x):DLs l (zC4 x):=by
 unfold zC5 at h
 split at h
 ·simp only[Option.bind_eq_some_iff] at h
  obtain⟨x0,hx0,x1,hx1,x2,hx2,x3,hx3,x4,hx4,x5,hx5,x6,hx6,x7,hx7,h⟩:=h
  cases h
  exact aJ (aW hx0) (aJ (aW hx1) (aJ (aW hx2) (aJ (aW hx3) (aJ (aW hx4) (aJ (aW hx5) (aJ (aW hx6) (aJ (aW hx7) (jI))))))))
 ·cases h
def zC6(x:Ap):List (D TK):=[.int .i64 x.id,.int .i64 x.state,.str x.queue,.int .i64 x.user,.int .i64 x.prio,.int .i64 x.master.mem,.int .i64 x.master.cores,.sl 95 x.asks,.int .i64 x.seen,.int .i64 x.beat,.sl 3 x.grants,.sl 3 x.kills,.sl 3 x.told,.sl 3 x.lost]
def zC7:List (D TK)→Option Ap
 | y0::y1::y2::y3::y4::y5::y6::y7::y8::y9::y10::y11::y12::y13::[]=>(asI y0).bind fun x0=>(asI y1).bind fun x1=>(asS y2).bind fun x2=>(asI y3).bind fun x3=>(asI y4).bind fun x4=>(asI y5).bind fun x5=>(asI y6).bind fun x6=>(asL 95 y7).bind fun x7=>(asI y8).bind fun x8=>(asI y9).bind fun x9=>(asL 3 y10).bind fun x10=>(asL 3 y11).bind fun x11=>(asL 3 y12).bind fun x12=>(asL 3 y13).bind fun x13=>some ⟨x0,x1,x2,x3,x4,⟨x5,x6⟩,x7,x8,x9,x10,x11,x12,x13⟩
 | _=>none
theorem zLu(l:List (D TK))(x:Ap)(h:zC7 l=some x):DLs l (zC6 x):=by
 unfold zC7 at h
 split at h
 ·simp only[Option.bind_eq_some_iff] at h
  obtain⟨x0,hx0,x1,hx1,x2,hx2,x3,hx3,x4,hx4,x5,hx5,x6,hx6,x7,hx7,x8,hx8,x9,hx9,x10,hx10,x11,hx11,x12,hx12,x13,hx13,h⟩:=h
  cases h
  exact aJ (aW hx0) (aJ (aW hx1) (aJ (qGv hx2) (aJ (aW hx3) (aJ (aW hx4) (aJ (aW hx5) (aJ (aW hx6) (aJ (fZ hx7) (aJ (aW hx8) (aJ (aW hx9) (aJ (fZ hx10) (aJ (fZ hx11) (aJ (fZ hx12) (aJ (fZ hx13) (jI))))))))))))))
 ·cases h
def zC8(x:Ct):List (D TK):=[.int .i64 x.id,.int .i64 x.app,.int .i64 x.node,.int .i64 x.size.mem,.int .i64 x.size.cores,.int .i64 x.prio,.int .i64 x.label,.bool x.master,.int .i64 x.notice]
def zC9:List (D TK)→Option Ct
 | y0::y1::y2::y3::y4::y5::y6::y7::y8::[]=>(asI y0).bind fun x0=>(asI y1).bind fun x1=>(asI y2).bind fun x2=>(asI y3).bind fun x3=>(asI y4).bind fun x4=>(asI y5).bind fun x5=>(asI y6).bind fun x6=>(asB y7).bind fun x7=>(asI y8).bind fun x8=>some ⟨x0,x1,x2,⟨x3,x4⟩,x5,x6,x7,x8⟩
 | _=>none
theorem zLv(l:List (D TK))(x:Ct)(h:zC9 l=some x):DLs l (zC8 x):=by
 unfold zC9 at h
 split at h
 ·simp only[Option.bind_eq_some_iff] at h
  obtain⟨x0,hx0,x1,hx1,x2,hx2,x3,hx3,x4,hx4,x5,hx5,x6,hx6,x7,hx7,x8,hx8,h⟩:=h
  cases h
  exact aJ (aW hx0) (aJ (aW hx1) (aJ (aW hx2) (aJ (aW hx3) (aJ (aW hx4) (aJ (aW hx5) (aJ (aW hx6) (aJ (qUY hx7) (aJ (aW hx8) (jI)))))))))
 ·cases h
def zCA(x:Sl):List (D TK):=[.int .i64 x.node,.int .i64 x.app,.int .i64 x.prio]
def zCB:List (D TK)→Option Sl
 | y0::y1::y2::[]=>(asI y0).bind fun x0=>(asI y1).bind fun x1=>(asI y2).bind fun x2=>some ⟨x0,x1,x2⟩
 | _=>none
theorem zLw(l:List (D TK))(x:Sl)(h:zCB l=some x):DLs l (zCA x):=by
 unfold zCB at h
 split at h
 ·simp only[Option.bind_eq_some_iff] at h
  obtain⟨x0,hx0,x1,hx1,x2,hx2,h⟩:=h
  cases h
  exact aJ (aW hx0) (aJ (aW hx1) (aJ (aW hx2) (jI)))
 ·cases h
def zCC(x:Pn):List (D TK):=[.int .i64 x.id,.int .i64 x.label,.int .i64 x.start,.int .i64 x.stop,.int .i64 x.need.mem,.int .i64 x.need.cores]
def zCD:List (D TK)→Option Pn
 | y0::y1::y2::y3::y4::y5::[]=>(asI y0).bind fun x0=>(asI y1).bind fun x1=>(asI y2).bind fun x2=>(asI y3).bind fun x3=>(asI y4).bind fun x4=>(asI y5).bind fun x5=>some ⟨x0,x1,x2,x3,⟨x4,x5⟩⟩
 | _=>none
theorem zLx(l:List (D TK))(x:Pn)(h:zCD l=some x):DLs l (zCC x):=by
 unfold zCD at h
 split at h
 ·simp only[Option.bind_eq_some_iff] at h
  obtain⟨x0,hx0,x1,hx1,x2,hx2,x3,hx3,x4,hx4,x5,hx5,h⟩:=h
  cases h
  exact aJ (aW hx0) (aJ (aW hx1) (aJ (aW hx2) (aJ (aW hx3) (aJ (aW hx4) (aJ (aW hx5) (jI))))))
 ·cases h
def zCE(x:Se):List (D TK):=[.sl 9 x.conf.labels,.sl 114 x.conf.queues,.sl 57 x.nodes,.sl 47 x.apps,.sl 50 x.conts,.sl 85 x.slots,.sl 59 x.plans,.int .i64 x.now,.int .i64 x.epoch,.int .i64 x.seq]
def zCF:List (D TK)→Option Se
 | y0::y1::y2::y3::y4::y5::y6::y7::y8::y9::[]=>(asL 9 y0).bind fun x0=>(asL 114 y1).bind fun x1=>(asL 57 y2).bind fun x2=>(asL 47 y3).bind fun x3=>(asL 50 y4).bind fun x4=>(asL 85 y5).bind fun x5=>(asL 59 y6).bind fun x6=>(asI y7).bind fun x7=>(asI y8).bind fun x8=>(asI y9).bind fun x9=>some ⟨⟨x0,x1⟩,x2,x3,x4,x5,x6,x7,x8,x9⟩
 | _=>none
theorem zLy(l:List (D TK))(x:Se)(h:zCF l=some x):DLs l (zCE x):=by
 unfold zCF at h
 split at h
 ·simp only[Option.bind_eq_some_iff] at h
  obtain⟨x0,hx0,x1,hx1,x2,hx2,x3,hx3,x4,hx4,x5,hx5,x6,hx6,x7,hx7,x8,hx8,x9,hx9,h⟩:=h
  cases h
  exact aJ (fZ hx0) (aJ (fZ hx1) (aJ (fZ hx2) (aJ (fZ hx3) (aJ (fZ hx4) (aJ (fZ hx5) (aJ (fZ hx6) (aJ (aW hx7) (aJ (aW hx8) (aJ (aW hx9) (jI))))))))))
 ·cases h
def zCG(x:Ip):List (D TK):=[.int .i64 x.kind,.int .i64 x.id,.int .i64 x.beat,.int .i64 x.n,.str x.text,.int .i64 x.node.id,.int .i64 x.node.label,.int .i64 x.node.rack,.int .i64 x.node.cap.mem,.int .i64 x.node.cap.cores,.int .i64 x.node.seen,.int .i64 x.node.beat,.bool x.node.up,.int .i64 x.app.id,.int .i64 x.app.state,.str x.app.queue,.int .i64 x.app.user,.int .i64 x.app.prio,.int .i64 x.app.master.mem,.int .i64 x.app.master.cores,.sl 95 x.app.asks,.int .i64 x.app.seen,.int .i64 x.app.beat,.sl 3 x.app.grants,.sl 3 x.app.kills,.sl 3 x.app.told,.sl 3 x.app.lost,.sl 95 x.asks,.sl 3 x.ids,.int .i64 x.plan.id,.int .i64 x.plan.label,.int .i64 x.plan.start,.int .i64 x.plan.stop,.int .i64 x.plan.need.mem,.int .i64 x.plan.need.cores]
def zCH:List (D TK)→Option Ip
 | y0::y1::y2::y3::y4::y5::y6::y7::y8::y9::y10::y11::y12::y13::y14::y15::y16::y17::y18::y19::y20::y21::y22::y23::y24::y25::y26::y27::y28::y29::y30::y31::y32::y33::y34::[]=>(asI y0).bind fun x0=>(asI y1).bind fun x1=>(asI y2).bind fun x2=>(asI y3).bind fun x3=>(asS y4).bind fun x4=>(asI y5).bind fun x5=>(asI y6).bind fun x6=>(asI y7).bind fun x7=>(asI y8).bind fun x8=>(asI y9).bind fun x9=>(asI y10).bind fun x10=>(asI y11).bind fun x11=>(asB y12).bind fun x12=>(asI y13).bind fun x13=>(asI y14).bind fun x14=>(asS y15).bind fun x15=>(asI y16).bind fun x16=>(asI y17).bind fun x17=>(asI y18).bind fun x18=>(asI y19).bind fun x19=>(asL 95 y20).bind fun x20=>(asI y21).bind fun x21=>(asI y22).bind fun x22=>(asL 3 y23).bind fun x23=>(asL 3 y24).bind fun x24=>(asL 3 y25).bind fun x25=>(asL 3 y26).bind fun x26=>(asL 95 y27).bind fun x27=>(asL 3 y28).bind fun x28=>(asI y29).bind fun x29=>(asI y30).bind fun x30=>(asI y31).bind fun x31=>(asI y32).bind fun x32=>(asI y33).bind fun x33=>(asI y34).bind fun x34=>some ⟨x0,x1,x2,x3,x4,⟨x5,x6,x7,⟨x8,x9⟩,x10,x11,x12⟩,⟨x13,x14,x15,x16,x17,⟨x18,x19⟩,x20,x21,x22,x23,x24,x25,x26⟩,x27,x28,⟨x29,x30,x31,x32,⟨x33,x34⟩⟩⟩
 | _=>none
theorem zLz(l:List (D TK))(x:Ip)(h:zCH l=some x):DLs l (zCG x):=by
 unfold zCH at h
 split at h
 ·simp only[Option.bind_eq_some_iff] at h
  obtain⟨x0,hx0,x1,hx1,x2,hx2,x3,hx3,x4,hx4,x5,hx5,x6,hx6,x7,hx7,x8,hx8,x9,hx9,x10,hx10,x11,hx11,x12,hx12,x13,hx13,x14,hx14,x15,hx15,x16,hx16,x17,hx17,x18,hx18,x19,hx19,x20,hx20,x21,hx21,x22,hx22,x23,hx23,x24,hx24,x25,hx25,x26,hx26,x27,hx27,x28,hx28,x29,hx29,x30,hx30,x31,hx31,x32,hx32,x33,hx33,x34,hx34,h⟩:=h
  cases h
  exact aJ (aW hx0) (aJ (aW hx1) (aJ (aW hx2) (aJ (aW hx3) (aJ (qGv hx4) (aJ (aW hx5) (aJ (aW hx6) (aJ (aW hx7) (aJ (aW hx8) (aJ (aW hx9) (aJ (aW hx10) (aJ (aW hx11) (aJ (qUY hx12) (aJ (aW hx13) (aJ (aW hx14) (aJ (qGv hx15) (aJ (aW hx16) (aJ (aW hx17) (aJ (aW hx18) (aJ (aW hx19) (aJ (fZ hx20) (aJ (aW hx21) (aJ (aW hx22) (aJ (fZ hx23) (aJ (fZ hx24) (aJ (fZ hx25) (aJ (fZ hx26) (aJ (fZ hx27) (aJ (fZ hx28) (aJ (aW hx29) (aJ (aW hx30) (aJ (aW hx31) (aJ (aW hx32) (aJ (aW hx33) (aJ (aW hx34) (jI)))))))))))))))))))))))))))))))))))
 ·cases h
def zCI(x:Ou):List (D TK):=[.int .i64 x.err,.sl 50 x.conts,.sl 3 x.ids,.sl 3 x.gone,.int .i64 x.n]
def zCJ:List (D TK)→Option Ou
 | y0::y1::y2::y3::y4::[]=>(asI y0).bind fun x0=>(asL 50 y1).bind fun x1=>(asL 3 y2).bind fun x2=>(asL 3 y3).bind fun x3=>(asI y4).bind fun x4=>some ⟨x0,x1,x2,x3,x4⟩
 | _=>none
theorem zL0(l:List (D TK))(x:Ou)(h:zCJ l=some x):DLs l (zCI x):=by
 unfold zCJ at h
 split at h
 ·simp only[Option.bind_eq_some_iff] at h
  obtain⟨x0,hx0,x1,hx1,x2,hx2,x3,hx3,x4,hx4,h⟩:=h
  cases h
  exact aJ (aW hx0) (aJ (fZ hx1) (aJ (fZ hx2) (aJ (fZ hx3) (aJ (aW hx4) (jI)))))
 ·cases h
def zCK(x:Sh):List (D TK):=[.str x.path,.int .i64 x.mem]
def zCL:List (D TK)→Option Sh
 | y0::y1::[]=>(asS y0).bind fun x0=>(asI y1).bind fun x1=>some ⟨x0,x1⟩
 | _=>none
theorem zL1(l:List (D TK))(x:Sh)(h:zCL l=some x):DLs l (zCK x):=by
 unfold zCL at h
 split at h
 ·simp only[Option.bind_eq_some_iff] at h
  obtain⟨x0,hx0,x1,hx1,h⟩:=h
  cases h
  exact aJ (qGv hx0) (aJ (aW hx1) (jI))
 ·cases h
def zCM(x:Fr):List (D TK):=[.int .i64 x.a,.int .i64 x.p]
def zCN:List (D TK)→Option Fr
 | y0::y1::[]=>(asI y0).bind fun x0=>(asI y1).bind fun x1=>some ⟨x0,x1⟩
 | _=>none
theorem zL2(l:List (D TK))(x:Fr)(h:zCN l=some x):DLs l (zCM x):=by
 unfold zCN at h
 split at h
 ·simp only[Option.bind_eq_some_iff] at h
  obtain⟨x0,hx0,x1,hx1,h⟩:=h
  cases h
  exact aJ (aW hx0) (aJ (aW hx1) (jI))
 ·cases h
def qVe(x:Act):List (D TK):=[.int .i64 x.kind,.int .i64 x.a,.int .i64 x.b,.int .i64 x.c,.int .i64 x.d]
def qVf:List (D TK)→Option Act
 | y0::y1::y2::y3::y4::[]=>(asI y0).bind fun x0=>(asI y1).bind fun x1=>(asI y2).bind fun x2=>(asI y3).bind fun x3=>(asI y4).bind fun x4=>some ⟨x0,x1,x2,x3,x4⟩
 | _=>none
theorem zJx(l:List (D TK))(x:Act)(h:qVf l=some x):DLs l (qVe x):=by
 unfold qVf at h
 split at h
 ·simp only[Option.bind_eq_some_iff] at h
  obtain⟨x0,hx0,x1,hx1,x2,hx2,x3,hx3,x4,hx4,h⟩:=h
  cases h
  exact aJ (aW hx0) (aJ (aW hx1) (aJ (aW hx2) (aJ (aW hx3) (aJ (aW hx4) (jI)))))
 ·cases h
def qJD(x:Scr):List (D TK):=[.int .i64 x.shape,.sl 3 x.ns,.sl 72 x.acts]
def qVg:List (D TK)→Option Scr
 | y0::y1::y2::[]=>(asI y0).bind fun x0=>(asL 3 y1).bind fun x1=>(asL 72 y2).bind fun x2=>some ⟨x0,x1,x2⟩
 | _=>none
theorem zJy(l:List (D TK))(x:Scr)(h:qVg l=some x):DLs l (qJD x):=by
 unfold qVg at h
 split at h
 ·simp only[Option.bind_eq_some_iff] at h
  obtain⟨x0,hx0,x1,hx1,x2,hx2,h⟩:=h
  cases h
  exact aJ (aW hx0) (aJ (fZ hx1) (aJ (fZ hx2) (jI)))
 ·cases h
structure zM3(e:Nat) where
 k:Nat
 enc:TK e→List (D TK)
 dec:List (D TK)→Option (TK e)
 law:∀l x,dec l=some x→DLs l (enc x)
 len:∀x,(enc x).length=k
def qVh:(e:Nat)→zM3 e
 | 3=>⟨1,qUZ,qVa,zJq,fun _=>rfl⟩
 | 5=>⟨1,zCu,zCv,zLo,fun _=>rfl⟩
 | 9=>⟨1,encStr,qVb,zJr,fun _=>rfl⟩
 | 27=>⟨2,qVc,qVd,zJw,fun _=>rfl⟩
 | 111=>⟨2,zCw,zCx,zLp,fun _=>rfl⟩
 | 114=>⟨3,zCy,zCz,zLq,fun _=>rfl⟩
 | 32=>⟨2,zC0,zC1,zLr,fun _=>rfl⟩
 | 57=>⟨8,zC2,zC3,zLs,fun _=>rfl⟩
 | 95=>⟨8,zC4,zC5,zLt,fun _=>rfl⟩
 | 47=>⟨14,zC6,zC7,zLu,fun _=>rfl⟩
 | 50=>⟨9,zC8,zC9,zLv,fun _=>rfl⟩
 | 85=>⟨3,zCA,zCB,zLw,fun _=>rfl⟩
 | 59=>⟨6,zCC,zCD,zLx,fun _=>rfl⟩
 | 39=>⟨10,zCE,zCF,zLy,fun _=>rfl⟩
 | 61=>⟨35,zCG,zCH,zLz,fun _=>rfl⟩
 | 53=>⟨5,zCI,zCJ,zL0,fun _=>rfl⟩
 | 285=>⟨2,zCK,zCL,zL1,fun _=>rfl⟩
 | 467=>⟨2,zCM,zCN,zL2,fun _=>rfl⟩
 | 72=>⟨5,qVe,qVf,zJx,fun _=>rfl⟩
 | 25=>⟨3,qJD,qVg,zJy,fun _=>rfl⟩
 | _=>⟨0,fun _=>[],fun _=>none,fun _ _ h=>(by cases h),fun _=>rfl⟩
def zL3(e:Nat):Bool:=Nat.beq e 5
structure zL4(e:Nat) where
 toS:List (TK e)→List UInt8
 ofS:List UInt8→List (TK e)
def zI6:(e:Nat)→zL4 e
 | 5=>⟨dn,up⟩
 | _=>⟨fun _=>[],fun _=>[]⟩
theorem qIu{e:Nat}(h:zL3 e=true):e=5:=Nat.eq_of_beq_eq_true h
def aC:Reg where
 hint:=[114,47,61]
 T:=TK
 has e:=(zJp e).has
 k e:=(qVh e).k
 dflt e:=(zJp e).dflt
 enc e:=(qVh e).enc
 dec e:=(qVh e).dec
 isB:=zL3
 toS e:=(zI6 e).toS
 ofS e:=(zI6 e).ofS
 law e:=(qVh e).law
 len e:=(qVh e).len
 toS_len e xs h:=by have:= qIu h;subst this;exact zJt xs
 toS_get e xs r h hr:=by have:= qIu h;subst this;exact⟨_,rfl,zJu hr⟩
 ofS_len e s h:=by have:= qIu h;subst this;exact zJs s
 ofS_get e s r h _:=by have:= qIu h;subst this;exact congrArg (fun n:Int=>[D.int IntKind.u8 n]) (zJv s r)
 Tab:=fun _=>True
abbrev VK:=V aC.T
abbrev TB:=List VK→Hp aC.T→Out (VK×Hp aC.T)
abbrev w64(n:Int):Int:=IntKind.i64.wrap n
theorem mixed:Tryz.prog.follows .mixedOrders=true:=by kernel_rfl
theorem zL5:(Tryz.prog.funcs.toList.all fun fn=>fn.body.isNone||!(fn.name == "runtime.NumGoroutine"))=true:=by kernel_rfl
theorem hno:∀(f:FuncId) fn,Tryz.prog.funcs[f]? = some fn→fn.body.isNone=false→(fn.name == "runtime.NumGoroutine")=false:=by
 intro f fn h hb
 have:= List.all_eq_true.1 zL5 fn (by rw[Array.mem_toList_iff];exact Array.mem_of_getElem? h)
 rw[hb] at this
 simpa using this
theorem there(f:Nat)(h:(match Tryz.prog.funcs[f]? with | some fn=>!fn.body.isNone | none=>false)=true):There Tryz.prog f:=by
 split at h
 ·rename_i fn hfn
  have hb:fn.body.isNone=false:=by simpa using h
  exact⟨fn,hfn,hno f fn hfn hb,hb⟩
 ·cases h
def aM(f:FuncId)(S:TB):Prop:=∀args h Q,(S args h).K Q→There Tryz.prog f∧∀N F φ w cargs,(∀r,Q r→iE N h.nx r.2.nx)→HR N F φ h w→nL F w φ args cargs→Calls Tryz.prog f cargs w (iF N F φ h w Q)
theorem aA{f:FuncId}{S}{l:List (Nat×TB)}(h:aM f S)(hl:iL Tryz.prog (fun g=>dH l g)):iL Tryz.prog (fun g=>dH ((f,S)::l) g):=by
 intro g S' hg
 simp only[dH] at hg
 split at hg
 ·rename_i hb
  cases hg
  rw[←Nat.eq_of_beq_eq_true hb]
  exact h
 ·exact hl g S' hg
theorem fH:iL (reg:=aC) Tryz.prog (fun g=>dH [] g):=fun f S h=>by cases h
abbrev Ka:=Cs aC
def con(ka kr:List Kd)(pre:Ka ka→Bool)(M:Ka ka→Ka kr)(hk:ka.all eH=true):TB:=(qB4 aC ka kr pre M).con (qEZ ka kr pre M hk)
def tree(hd:Hd aC.T)(L J:Nat→St aC.T→Option (List Ld))(f:Nat)(ka kr:List Kd)(a:Ka ka):DT (Ka kr):=match Tryz.prog.funcs[f]? with
 | some fn=>qPx aC Tryz.prog hd 1000 L J fn (qD4 aC ka a) ⟨.e,0,[]⟩ (qZK aC kr)
 | none=>.bad
theorem row_of{hd:Hd aC.T}(hHd:bJ Tryz.prog hd){L J:Nat→St aC.T→Option (List Ld)}{f:Nat}(ht:(match Tryz.prog.funcs[f]? with | some fn=>!fn.body.isNone | none=>false)=true){ka kr:List Kd}(hk:ka.all eH=true)(hkr:kr.all eH=true){pre:Ka ka→Bool}{M:Ka ka→Ka kr}
  (h:∀a,pre a=true→(tree hd L J f ka kr a).G (M a)):aM f (con ka kr pre M hk):=by
 obtain⟨fn,hfn⟩:∃fn,Tryz.prog.funcs[f]? = some fn:=by
  split at ht
  ·rename_i fn h;exact⟨fn,h⟩
  ·cases ht
 refine Spec.nZ (qGq (fuel:=1000) (L:=L) (J:=J) mixed hHd hfn (there f ht) hkr fun a ha=>?_) (qEZ ka kr pre M hk) (fun _=>Nat.zero_le _)
 have:= h a ha
 unfold tree at this
 rw[hfn] at this
 exact this
def hd0:Hd aC.T:=hdT aC Tryz.prog (fun _=>none) (fun _=>false) 1000 5
theorem eO:bJ Tryz.prog hd0:=bW mixed hno (fun f S h=>by cases h) _ _ _
end Go.Proofs.YtehpnjmgjmkjaaaGreatDoor
namespace Go.W
open Go
section
variable {α ρ σ β:Type}
@[simp] theorem qH0{a x:α}:(DT.ret a).G x↔a=x:=Iff.rfl
@[simp] theorem qA3{b:Bool}{t:DT α}{x:α}:(DT.need b t).G x↔b=true∧t.G x:=bE _ _
@[simp] theorem zMU{b:Bool}{t u:DT α}{x:α}:(DT.br b t u).G x↔(b=true→t.G x)∧(b=false→u.G x):=zCg
theorem bB{b:Bool}{t:DT α}{x:α}(h:b=true)(ht:t.G x):(DT.need b t).G x:=qA3.2 ⟨h,ht⟩
theorem fQ{b:Bool}{t u:DT α}{x:α}(h:b=true)(ht:t.G x):(DT.br b t u).G x:=by subst h;exact ht
theorem bN{b:Bool}{t u:DT α}{x:α}(h:b=false)(ht:u.G x):(DT.br b t u).G x:=by subst h;exact ht
theorem qZT{b:Bool}{t u:DT α}{x:α}(h1:b=true→t.G x)(h2:b=false→u.G x):(DT.br b t u).G x:=zCg.2 ⟨h1,h2⟩
@[simp] theorem gZ{i n:Int}:ixB i n=true↔0≤i∧i<n:=by simp[ixB]
@[simp] theorem gI{n b:Nat}:aX n b=true↔n*b≤140737488355328∧n≤9223372036854775807:=by simp[aX]
@[simp] theorem qCL{l u n:Int}:inB l u n=true↔0≤l∧l≤u∧u≤n:=by simp[inB,and_assoc]
@[simp] theorem qIv{l u n:Int}:slB l u n=true↔0≤l∧l≤u∧u≤n:=by simp[slB,qCL]
@[simp] theorem vO(l:List α):aR 0 l.length l=l:=by simp[aR]
@[simp] theorem zMW{a b:Nat}:Nat.beq a b=true↔a=b:=by rw[Nat.beq_eq]
@[simp] theorem qGw{a b:Nat}:Nat.ble a b=true↔a≤b:=by rw[Nat.ble_eq]
def scan(f:β→α→β ⊕ ρ)(fin:β→ρ):List α→β→ρ
 | [],b=>fin b
 | a::l,b=>(match f b a with | .inl b'=>scan f fin l b' | .inr r=>r)
theorem qP{body:σ→DT (σ ⊕ ρ)}{x:ρ}(I:σ→Prop)(μ:σ→Nat)(h:∀s,I s→(∃s',(body s).G (.inl s')∧I s'∧μ s' < μ s)∨(body s).G (.inr x)){s0:σ}(h0:I s0):(DT.loop s0 body).G x:=by
 have key:∀(n:Nat) (s:σ),μ s<n→I s→DT.qAw (fun s y=>(body s).G y) n s x:=by
  intro n
  induction n with
  | zero=>intro s h;omega
  | succ n ih =>
   intro s hs hi
   rcases h s hi with⟨s',h1,h2,h3⟩ | h1
   ·exact⟨.inl s',h1,ih s' (by omega) h2⟩
   ·exact⟨.inr x,h1,rfl⟩
 exact DT.qN.2 ⟨_,key _ s0 (Nat.lt_succ_self _) h0⟩
theorem jU(l:List α)(d:α)(enc:Int→β→σ){body:σ→DT (σ ⊕ ρ)}(f:β→α→β ⊕ ρ)(fin:β→ρ)(I:Nat→β→Prop)
  (hstep:∀(i:Nat) (b:β),i<l.length→I i b→match f b (l.getD i d) with | .inl b'=>I (i+1) b'∧(body (enc (i:Int) b)).G (.inl (enc ((i+1:Nat):Int) b')) | .inr r=>(body (enc (i:Int) b)).G (.inr r))
  (hend:∀b,I l.length b→(body (enc (l.length:Int) b)).G (.inr (fin b))) {b0:β} (h0:I 0 b0) {x:ρ} (hx:scan f fin l b0=x):(DT.loop (enc 0 b0) body).G x:=by
 have key:∀(n i:Nat) (b:β),l.length-i<n→i≤l.length→I i b→scan f fin (l.drop i) b=x→DT.qAw (fun s y=>(body s).G y) n (enc (i:Int) b) x:=by
  intro n
  induction n with
  | zero=>intro i b h;omega
  | succ n ih =>
   intro i b hn hi hI hs
   rcases Nat.lt_or_ge i l.length with hlt | hge
   ·have hd:l.drop i=l.getD i d::l.drop (i+1):=by
     rw[List.drop_eq_getElem_cons hlt]
     simp[List.getD,hlt]
    rw[hd] at hs
    have h1:=hstep i b hlt hI
    simp only[scan] at hs
    cases hf:f b (l.getD i d) with
    | inl b' =>
     rw[hf] at h1 hs
     exact⟨_,h1.2,ih (i+1) b' (by omega) hlt h1.1 hs⟩
    | inr r =>
     rw[hf] at h1 hs
     exact⟨_,h1,hs⟩
   ·have hi':i=l.length:=by omega
    subst hi'
    rw[List.drop_length] at hs
    exact⟨_,hend b hI,hs⟩
 exact DT.qN.2 ⟨_,key _ 0 b0 (Nat.lt_succ_self _) (Nat.zero_le _) h0 (by simpa using hx)⟩
def qNc(f:Nat→β→α→β ⊕ ρ)(fin:Nat→β→ρ):Nat→List α→β→ρ
 | i,[],b=>fin i b
 | i,a::l,b=>(match f i b a with | .inl b'=>qNc f fin (i+1) l b' | .inr r=>r)
theorem qP5(l:List α)(d:α)(enc:Int→β→σ){body:σ→DT (σ ⊕ ρ)}(f:Nat→β→α→β ⊕ ρ)(fin:Nat→β→ρ)(I:Nat→β→Prop)
  (hstep:∀(i:Nat) (b:β),i<l.length→I i b→match f i b (l.getD i d) with | .inl b'=>I (i+1) b'∧(body (enc (i:Int) b)).G (.inl (enc ((i+1:Nat):Int) b')) | .inr r=>(body (enc (i:Int) b)).G (.inr r))
  (hend:∀b,I l.length b→(body (enc (l.length:Int) b)).G (.inr (fin l.length b))) {b0:β} (h0:I 0 b0) {x:ρ} (hx:qNc f fin 0 l b0=x):(DT.loop (enc 0 b0) body).G x:=by
 have key:∀(n i:Nat) (b:β),l.length-i<n→i≤l.length→I i b→qNc f fin i (l.drop i) b=x→DT.qAw (fun s y=>(body s).G y) n (enc (i:Int) b) x:=by
  intro n
  induction n with
  | zero=>intro i b h;omega
  | succ n ih =>
   intro i b hn hi hI hs
   rcases Nat.lt_or_ge i l.length with hlt | hge
   ·have hd:l.drop i=l.getD i d::l.drop (i+1):=by
     rw[List.drop_eq_getElem_cons hlt]
     simp[List.getD,hlt]
    rw[hd] at hs
    have h1:=hstep i b hlt hI
    simp only[qNc] at hs
    cases hf:f i b (l.getD i d) with
    | inl b' =>
     rw[hf] at h1 hs
     exact⟨_,h1.2,ih (i+1) b' (by omega) hlt h1.1 hs⟩
    | inr r =>
     rw[hf] at h1 hs
     exact⟨_,h1,hs⟩
   ·have hi':i=l.length:=by omega
    subst hi'
    rw[List.drop_length] at hs
    exact⟨_,hend b hI,hs⟩
 exact DT.qN.2 ⟨_,key _ 0 b0 (Nat.lt_succ_self _) (Nat.zero_le _) h0 (by simpa using hx)⟩
theorem aT{t:DT (σ ⊕ α)}{k:σ→DT α}{x:α}(s:σ)(h1:t.G (.inl s))(h2:(k s).G x):(DT.join t k).G x:=DT.lK.2 ⟨.inl s,h1,h2⟩
theorem rQ{t:DT (σ ⊕ α)}{k:σ→DT α}{x:α}(h1:t.G (.inr x)):(DT.join t k).G x:=DT.lK.2 ⟨.inr x,h1,rfl⟩
@[simp] theorem zM4{b:Bool}{t:DT (σ ⊕ α)}{k:σ→DT α}{x:α}:(DT.join (DT.need b t) k).G x↔b=true∧(DT.join t k).G x:=by
 rw[DT.lK,DT.lK]
 exact⟨fun⟨y,h1,h2⟩=>⟨(qA3.1 h1).1,y,(qA3.1 h1).2,h2⟩,fun⟨h0,y,h1,h2⟩=>⟨y,qA3.2 ⟨h0,h1⟩,h2⟩⟩
@[simp] theorem zMX{b:Bool}{t u:DT (σ ⊕ α)}{k:σ→DT α}{x:α}:(DT.join (DT.br b t u) k).G x↔(b=true→(DT.join t k).G x)∧(b=false→(DT.join u k).G x):=by
 cases b with
 | true=>exact⟨fun h=>⟨fun _=>h,fun e=>(by cases e)⟩,fun h=>h.1 rfl⟩
 | false=>exact⟨fun h=>⟨fun e=>(by cases e),fun _=>h⟩,fun h=>h.2 rfl⟩
@[simp] theorem qB5{s:σ}{k:σ→DT α}{x:α}:(DT.join (DT.ret (.inl s)) k).G x↔(k s).G x:=by
 rw[DT.lK]
 exact⟨fun⟨y,h1,h2⟩=>by have h1:Sum.inl s=y:=h1;subst h1;exact h2,fun h=>⟨.inl s,rfl,h⟩⟩
@[simp] theorem zMV{a:α}{k:σ→DT α}{x:α}:(DT.join (DT.ret (.inr a)) k).G x↔a=x:=by
 rw[DT.lK]
 exact⟨fun⟨y,h1,h2⟩=>by have h1:Sum.inr a=y:=h1;subst h1;exact h2,fun h=>⟨.inr a,rfl,h⟩⟩
@[simp] theorem mO(k:Nat)(l:List α):aH 0 k l=l.take k:=by simp[aH]
@[simp] theorem vP(k:Nat)(l:List α):aH k l.length l=l.drop k:=by simp[aH]
theorem qB6(p:α→Bool)(g:Nat→ρ):∀(l:List α) (i:Nat),qNc (fun i (_:Unit) a=>bif p a then .inl () else .inr (g i)) (fun i _=>g i) i l ()=g (i+(l.takeWhile p).length)
 | [],i=>rfl
 | a::l,i=>by
  simp only[qNc,List.takeWhile]
  cases p a with
  | true=>simp only[cond_true,qB6 p g l,List.length_cons];congr 1;omega
  | false=>rfl
theorem qX0(p:α→Bool):∀l:List α,l.take (l.takeWhile p).length=l.takeWhile p∧l.drop (l.takeWhile p).length=l.dropWhile p
 | []=>⟨rfl,rfl⟩
 | a::l=>by
  simp only[List.takeWhile,List.dropWhile]
  cases p a with
  | true=>simp[(qX0 p l).1,(qX0 p l).2]
  | false=>simp
@[simp] theorem nN(n:Nat):Nat.ble n n=true:=Nat.ble_eq_true_of_le (Nat.le_refl n)
@[simp] theorem zA(n:Nat):Nat.beq n n=true:=Nat.beq_refl n
def runK{σ α:Type}(o:Option (σ ⊕ α))(k:σ→Option α):Option α:=match o with
 | some (.inl s)=>k s
 | some (.inr a)=>some a
 | none=>none
@[simp] theorem iH{s:σ}{k:σ→Option α}:runK (some (Sum.inl s)) k=k s:=rfl
@[simp] theorem iU{a:α}{k:σ→Option α}:runK (some (Sum.inr a)) k=some a:=rfl
@[simp] theorem zKU{k:σ→Option α}:runK none k=none:=rfl
def DT.run:{α:Type}→DT α→Option α
 | _,.ret a=>some a
 | _,.need b t=>bif b then t.run else none
 | _,.br b t u=>bif b then t.run else u.run
 | _,.both _ _=>none
 | _,.bad=>none
 | _,.loop _ _=>none
 | _,.join t k=>runK t.run fun s=>(k s).run
 termination_by structural _ t=>t
@[simp] theorem dE{a:α}:(DT.ret a).run=some a:=rfl
@[simp] theorem dN{b:Bool}{t:DT α}:(DT.need b t).run=bif b then t.run else none:=rfl
@[simp] theorem fC{b:Bool}{t u:DT α}:(DT.br b t u).run=bif b then t.run else u.run:=rfl
@[simp] theorem jJ{t:DT (σ ⊕ α)}{k:σ→DT α}:(DT.join t k).run=runK t.run fun s=>(k s).run:=rfl
theorem aF:∀{α:Type} {t:DT α} {x:α},t.run=some x→t.G x:=by
 intro α t
 induction t with
 | ret a=>intro x h;cases h;rfl
 | need b t ih =>
  intro x h
  cases b with
  | true=>exact qA3.2 ⟨rfl,ih h⟩
  | false=>cases h
 | br b t u iht ihu =>
  intro x h
  cases b with
  | true=>exact iht h
  | false=>exact ihu h
 | both t u _ _=>intro x h;cases h
 | bad=>intro x h;cases h
 | loop s body ih=>intro x h;cases h
 | join t k iht ihk =>
  intro x h
  rw[jJ] at h
  unfold runK at h
  split at h
  ·rename_i s hs;exact aT s (iht hs) (ihk s h)
  ·rename_i a hs;cases h;exact rQ (iht hs)
  ·cases h
theorem lN(l:List α)(d:α)(enc:Int→β→σ){body:σ→DT (σ ⊕ ρ)}(f:β→α→β ⊕ ρ)(fin:β→ρ)(I:Nat→β→Prop)
  (hstep:∀(i:Nat) (b:β),i<l.length→I i b→match f b (l.getD i d) with | .inl b'=>I (i+1) b'∧(body (enc (i:Int) b)).run=some (.inl (enc ((i+1:Nat):Int) b')) | .inr r=>(body (enc (i:Int) b)).run=some (.inr r))
  (hend:∀b,I l.length b→(body (enc (l.length:Int) b)).run=some (.inr (fin b))) {b0:β} (h0:I 0 b0) {x:ρ} (hx:scan f fin l b0=x):(DT.loop (enc 0 b0) body).G x :=
 jU l d enc f fin I (fun i b hi hI=>by
  have:= hstep i b hi hI
  split<;>rename_i h<;>rw[h] at this
  ·exact⟨this.1,aF this.2⟩
  ·exact aF this) (fun b hI=>aF (hend b hI)) h0 hx
theorem qGx(p:α→Bool)(g:α→ρ)(e:ρ):∀l:List α,scan (fun(_:Unit) a=>bif p a then .inr (g a) else .inl ()) (fun _=>e) l ()=(match l.find? p with | some a=>g a | none=>e)
 | []=>rfl
 | a::l=>by
  simp only[scan,List.find?]
  cases p a with
  | true=>rfl
  | false=>exact qGx p g e l
theorem bX(g:β→α→β)(fin:β→ρ):∀(l:List α) (b:β),scan (fun b a=>.inl (g b a)) fin l b=fin (l.foldl g b)
 | [],b=>rfl
 | a::l,b=>by simp only[scan,List.foldl];exact bX g fin l (g b a)
def sF{γ:Type}(v:List γ):Option γ→List γ
 | some c=>v++[c]
 | none=>v
theorem fold_filterMap{γ:Type}(h:α→Option γ):∀(l:List α) (b:List γ),l.foldl (fun b a=>sF b (h a)) b=b++l.filterMap h
 | [],b=>by simp
 | a::l,b=>by
  rw[List.foldl,fold_filterMap h l,List.filterMap_cons]
  cases h a with
  | none=>rfl
  | some c=>simp[sF]
theorem fold_filter(p:α→Bool):∀(l:List α) (b:List α),l.foldl (fun b a=>bif p a then b++[a] else b) b=b++l.filter p
 | [],b=>by simp
 | a::l,b=>by
  simp only[List.foldl,List.filter]
  cases p a<;>simp[fold_filter p l]
end
theorem sS:(type_of% @dN)∧(type_of% @fC)∧(type_of% @dE)∧(type_of% @jJ)∧(type_of% @iH)∧(type_of% @iU)∧(type_of% @cond_true.{1})∧(type_of% @cond_false.{1})∧(type_of% Bool.and_true)∧(type_of% Bool.not_true)∧(type_of% Bool.not_false)∧(type_of% Bool.false_or)∧(type_of% Bool.true_or)∧(type_of% Bool.or_false)∧(type_of% Bool.true_and)∧(type_of% Bool.false_and)∧(type_of% Int.toNat_natCast)∧(type_of% @Nat.zero_add)∧(type_of% @vO)∧(type_of% @mO)∧(type_of% @List.take_length.{0})∧(type_of% @nN)∧(type_of% @zA)∧(type_of% @List.length_append.{0})∧(type_of% @List.length_cons.{0})∧(type_of% @List.length_nil.{0})∧(type_of% @List.nil_append.{0}) :=
 ⟨@dN,@fC,@dE,@jJ,@iH,@iU,@cond_true.{1},@cond_false.{1},Bool.and_true,Bool.not_true,Bool.not_false,Bool.false_or,Bool.true_or,Bool.or_false,Bool.true_and,Bool.false_and,Int.toNat_natCast,@Nat.zero_add,@vO,@mO,@List.take_length.{0},@nN,@zA,@List.length_append.{0},@List.length_cons.{0},@List.length_nil.{0},@List.nil_append.{0}⟩
end Go.W
namespace Go.Proofs.YtehpnjmgjmkjaaaGreatDoor
open Go Go.W Go.Proofs
open Go.W.DT (ret need br bad loop join)
set_option maxRecDepth 100000
def qX1(id:Nat)(_st:St aC.T):Option (List Ld):=match id with
 | 2=>some ([.slot 6 (.int .i64)])
 | _=>none
def qP6(s:Se)(id:Int):DT (Nd×Bool×Unit) :=
 loop ((0:Int),()) fun(s_1:Int×Unit)=>br (decide (s_1.1<(↑s.nodes.length:Int))) (need (ixB s_1.1 (↑s.nodes.length:Int)) (br ((s.nodes.getD (Int.toNat s_1.1) dNd).id==id) (need (ixB s_1.1 (↑s.nodes.length:Int)) (ret (Sum.inr (s.nodes.getD (Int.toNat s_1.1) dNd,true,())))) (ret (Sum.inl (w64 (s_1.1+(1:Int)),()))))) (ret (Sum.inr (dNd,false,())))
theorem zG8(s:Se)(id:Int)(r:(Nd×Bool×Unit)):(tree hd0 qX1 noL 48 [.rcd 39,.int .i64] [.rcd 57,.bool] (s,id,())).G r=(qP6 s id).G r:=by kernel_rfl
def qX2(id:Nat)(st:St aC.T):Option (List Ld):=match id with
 | 3=>some ([.slot 6 (.int .i64)]++bK st 5 [.rcd 27])
 | _=>none
def qX3(id:Nat)(st:St aC.T):Option (List Ld):=match id with
 | 4=>some (bK st 5 [.rcd 27])
 | _=>none
def qP7(s:Se)(id:Int):DT (Vec×Unit) :=
 loop ((0:Int),(gG,()),()) fun(s_1:Int×(Vec×Unit)×Unit)=>br (decide (s_1.1<(↑s.conts.length:Int))) ((need (ixB s_1.1 (↑s.conts.length:Int)) (br ((s.conts.getD (Int.toNat s_1.1) dCt).node==id) (need (ixB s_1.1 (↑s.conts.length:Int)) (ret (Sum.inl ((Vec.mk (w64 ((Prod.fst s_1.2).1.mem+(s.conts.getD (Int.toNat s_1.1) dCt).size.mem)) (w64 ((Prod.fst s_1.2).1.cores+(s.conts.getD (Int.toNat s_1.1) dCt).size.cores)),()),())))) (ret (Sum.inl (((Prod.fst s_1.2).1,()),()))))).join fun(s_2:(Vec×Unit)×Unit)=>ret (Sum.inl (w64 (s_1.1+(1:Int)),(s_2.1.1,()),()))) (ret (Sum.inr ((Prod.fst s_1.2).1,())))
theorem zG9(s:Se)(id:Int)(r:(Vec×Unit)):(tree hd0 qX2 qX3 109 [.rcd 39,.int .i64] [.rcd 27] (s,id,())).G r=(qP7 s id).G r:=by kernel_rfl
def qNd(id:Nat)(st:St aC.T):Option (List Ld):=match id with
 | 3=>some ([aY st 3 3 false]++[.slot 4 (.int .i64)])
 | _=>none
def qNe(id:Nat)(st:St aC.T):Option (List Ld):=match id with
 | 4=>some ([aY st 3 3 false])
 | _=>none
def qGy(s:Se):DT (List Int×Unit) :=
 loop ([],(0:Int),()) fun(s_1:List Int×Int×Unit)=>br (decide (Prod.fst s_1.2<(↑s.nodes.length:Int))) ((need (ixB (Prod.fst s_1.2) (↑s.nodes.length:Int)) (br (s.nodes.getD (Int.toNat (Prod.fst s_1.2)) dNd).up (need (ixB (Prod.fst s_1.2) (↑s.nodes.length:Int)) (br (decide (w64 (s.now-(s.nodes.getD (Int.toNat (Prod.fst s_1.2)) dNd).seen)≥(10:Int))) (need (ixB (Prod.fst s_1.2) (↑s.nodes.length:Int)) (need (((0:Nat)+List.length s_1.1).beq (List.length s_1.1)) (need (aX (List.length s_1.1+(1:Nat)) (8:Nat)&&((0:Nat)+List.length s_1.1).ble (List.length s_1.1)) (need ((List.length s_1.1+(1:Nat)).beq (@aR Int (0:Nat) (List.length s_1.1) s_1.1++[(s.nodes.getD (Int.toNat (Prod.fst s_1.2)) dNd).id]).length) (ret (Sum.inl (@aR Int (0:Nat) (List.length s_1.1) s_1.1++[(s.nodes.getD (Int.toNat (Prod.fst s_1.2)) dNd).id],()))))))) (need ((List.length s_1.1).beq (List.length s_1.1)) (ret (Sum.inl (s_1.1,())))))) (need ((List.length s_1.1).beq (List.length s_1.1)) (ret (Sum.inl (s_1.1,())))))).join fun(s_2:List Int×Unit)=>need ((List.length s_2.1).beq (List.length s_2.1)) (ret (Sum.inl (s_2.1,w64 (Prod.fst s_1.2+(1:Int)),())))) (need (((0:Nat)+List.length s_1.1).ble (List.length s_1.1)) (ret (Sum.inr (@aH Int (0:Nat) ((0:Nat)+List.length s_1.1) s_1.1,()))))
theorem qZU(s:Se)(r:(List Int×Unit)):(tree hd0 qNd qNe 149 [.rcd 39] [.dat 3] (s,())).G r=(qGy s).G r:=by kernel_rfl
def zCO(id:Nat)(_st:St aC.T):Option (List Ld):=match id with
 | 2=>some ([.slot 6 (.int .i64)])
 | _=>none
def qVi(l:List Ak)(prio:Int):DT (Ak×Bool×Unit) :=
 loop ((0:Int),()) fun(s:Int×Unit)=>br (decide (s.1<(↑l.length:Int))) (need (ixB s.1 (↑l.length:Int)) (br ((l.getD (Int.toNat s.1) dAk).prio==prio) (need (ixB s.1 (↑l.length:Int)) (ret (Sum.inr (l.getD (Int.toNat s.1) dAk,true,())))) (ret (Sum.inl (w64 (s.1+(1:Int)),()))))) (ret (Sum.inr (dAk,false,())))
theorem zJz(l:List Ak)(prio:Int)(r:(Ak×Bool×Unit)):(tree hd0 zCO noL 326 [.dat 95,.int .i64] [.rcd 95,.bool] (l,prio,())).G r=(qVi l prio).G r:=by kernel_rfl
def qJE(id:Nat)(st:St aC.T):Option (List Ld):=match id with
 | 3=>some ([.slot 6 (.int .i64)]++bK st 5 [.rcd 27])
 | _=>none
def qJF(id:Nat)(st:St aC.T):Option (List Ld):=match id with
 | 4=>some (bK st 5 [.rcd 27])
 | _=>none
def qEc(l:List Ak)(label:Int):DT (Vec×Unit) :=
 loop ((0:Int),(gG,()),()) fun(s:Int×(Vec×Unit)×Unit)=>br (decide (s.1<(↑l.length:Int))) ((need (ixB s.1 (↑l.length:Int)) (br ((l.getD (Int.toNat s.1) dAk).label==label) (need (ixB s.1 (↑l.length:Int)) (need (ixB s.1 (↑l.length:Int)) (need (ixB s.1 (↑l.length:Int)) (need (ixB s.1 (↑l.length:Int)) (ret (Sum.inl ((Vec.mk (w64 ((Prod.fst s.2).1.mem+w64 ((l.getD (Int.toNat s.1) dAk).size.mem*(l.getD (Int.toNat s.1) dAk).count))) (w64 ((Prod.fst s.2).1.cores+w64 ((l.getD (Int.toNat s.1) dAk).size.cores*(l.getD (Int.toNat s.1) dAk).count))),()),()))))))) (ret (Sum.inl (((Prod.fst s.2).1,()),()))))).join fun(s_1:(Vec×Unit)×Unit)=>ret (Sum.inl (w64 (s.1+(1:Int)),(s_1.1.1,()),()))) (ret (Sum.inr ((Prod.fst s.2).1,())))
theorem qVj(l:List Ak)(label:Int)(r:(Vec×Unit)):(tree hd0 qJE qJF 401 [.dat 95,.int .i64] [.rcd 27] (l,label,())).G r=(qEc l label).G r:=by kernel_rfl
def qRM(id:Nat)(st:St aC.T):Option (List Ld):=match id with
 | 3=>some ([.slot 6 (.int .i64)]++bK st 5 [.rcd 27])
 | _=>none
def qRN(id:Nat)(st:St aC.T):Option (List Ld):=match id with
 | 4=>some (bK st 5 [.rcd 27])
 | _=>none
def qJG(s:Se)(label:Int):DT (Vec×Unit) :=
 loop ((0:Int),(gG,()),()) fun(s_1:Int×(Vec×Unit)×Unit)=>br (decide (s_1.1<(↑s.nodes.length:Int))) ((need (ixB s_1.1 (↑s.nodes.length:Int)) (br (s.nodes.getD (Int.toNat s_1.1) dNd).up (need (ixB s_1.1 (↑s.nodes.length:Int)) (br ((s.nodes.getD (Int.toNat s_1.1) dNd).label==label) (need (ixB s_1.1 (↑s.nodes.length:Int)) (ret (Sum.inl ((Vec.mk (w64 ((Prod.fst s_1.2).1.mem+(s.nodes.getD (Int.toNat s_1.1) dNd).cap.mem)) (w64 ((Prod.fst s_1.2).1.cores+(s.nodes.getD (Int.toNat s_1.1) dNd).cap.cores)),()),())))) (ret (Sum.inl (((Prod.fst s_1.2).1,()),()))))) (ret (Sum.inl (((Prod.fst s_1.2).1,()),()))))).join fun(s_2:(Vec×Unit)×Unit)=>ret (Sum.inl (w64 (s_1.1+(1:Int)),(s_2.1.1,()),()))) (ret (Sum.inr ((Prod.fst s_1.2).1,())))
theorem zCP(s:Se)(label:Int)(r:(Vec×Unit)):(tree hd0 qRM qRN 157 [.rcd 39,.int .i64] [.rcd 27] (s,label,())).G r=(qJG s label).G r:=by kernel_rfl
def qX4(id:Nat)(st:St aC.T):Option (List Ld):=match id with
 | 3=>some ([.slot 6 (.int .i64)]++bK st 5 [.rcd 27])
 | _=>none
def qX5(id:Nat)(st:St aC.T):Option (List Ld):=match id with
 | 4=>some (bK st 5 [.rcd 27])
 | _=>none
def qP8(s:Se)(label:Int):DT (Vec×Unit) :=
 loop ((0:Int),(gG,()),()) fun(s_1:Int×(Vec×Unit)×Unit)=>br (decide (s_1.1<(↑s.plans.length:Int))) ((need (ixB s_1.1 (↑s.plans.length:Int)) (br ((s.plans.getD (Int.toNat s_1.1) dPn).label==label) (br (decide ((s.plans.getD (Int.toNat s_1.1) dPn).start≤s.now)) (br (decide (s.now<(s.plans.getD (Int.toNat s_1.1) dPn).stop)) (ret (Sum.inl ((Vec.mk (w64 ((Prod.fst s_1.2).1.mem+(s.plans.getD (Int.toNat s_1.1) dPn).need.mem)) (w64 ((Prod.fst s_1.2).1.cores+(s.plans.getD (Int.toNat s_1.1) dPn).need.cores)),()),()))) (ret (Sum.inl (((Prod.fst s_1.2).1,()),())))) (ret (Sum.inl (((Prod.fst s_1.2).1,()),())))) (ret (Sum.inl (((Prod.fst s_1.2).1,()),()))))).join fun(s_2:(Vec×Unit)×Unit)=>ret (Sum.inl (w64 (s_1.1+(1:Int)),(s_2.1.1,()),()))) (ret (Sum.inr ((Prod.fst s_1.2).1,())))
theorem zGA(s:Se)(label:Int)(r:(Vec×Unit)):(tree hd0 qX4 qX5 392 [.rcd 39,.int .i64] [.rcd 27] (s,label,())).G r=(qP8 s label).G r:=by kernel_rfl
def qRO(id:Nat)(_st:St aC.T):Option (List Ld):=match id with
 | 2=>some ([.slot 6 (.int .i64)])
 | _=>none
def qJH(s:Se)(id:Int):DT (Ap×Bool×Unit) :=
 loop ((0:Int),()) fun(s_1:Int×Unit)=>br (decide (s_1.1<(↑s.apps.length:Int))) (need (ixB s_1.1 (↑s.apps.length:Int)) (br ((s.apps.getD (Int.toNat s_1.1) dAp).id==id) (need (ixB s_1.1 (↑s.apps.length:Int)) (ret (Sum.inr (s.apps.getD (Int.toNat s_1.1) dAp,true,())))) (ret (Sum.inl (w64 (s_1.1+(1:Int)),()))))) (ret (Sum.inr (dAp,false,())))
theorem zCQ(s:Se)(id:Int)(r:(Ap×Bool×Unit)):(tree hd0 qRO noL 47 [.rcd 39,.int .i64] [.rcd 47,.bool] (s,id,())).G r=(qJH s id).G r:=by kernel_rfl
def qRP(id:Nat)(_st:St aC.T):Option (List Ld):=match id with
 | 2=>some ([.slot 6 (.int .i64)])
 | _=>none
def qJI(s:Se)(id:Int):DT (Ct×Bool×Unit) :=
 loop ((0:Int),()) fun(s_1:Int×Unit)=>br (decide (s_1.1<(↑s.conts.length:Int))) (need (ixB s_1.1 (↑s.conts.length:Int)) (br ((s.conts.getD (Int.toNat s_1.1) dCt).id==id) (need (ixB s_1.1 (↑s.conts.length:Int)) (ret (Sum.inr (s.conts.getD (Int.toNat s_1.1) dCt,true,())))) (ret (Sum.inl (w64 (s_1.1+(1:Int)),()))))) (ret (Sum.inr (dCt,false,())))
theorem zCR(s:Se)(id:Int)(r:(Ct×Bool×Unit)):(tree hd0 qRP noL 17 [.rcd 39,.int .i64] [.rcd 50,.bool] (s,id,())).G r=(qJI s id).G r:=by kernel_rfl
def qRQ(id:Nat)(st:St aC.T):Option (List Ld):=match id with
 | 3=>some ([aY st 5 50 false]++[.slot 6 (.int .i64)])
 | _=>none
def qRR(id:Nat)(st:St aC.T):Option (List Ld):=match id with
 | 4=>some ([aY st 5 50 false])
 | _=>none
def qJJ(s:Se)(id:Int):DT (Se×Unit) :=
 loop ([],(0:Int),()) fun(s_1:List Ct×Int×Unit)=>br (decide (Prod.fst s_1.2<(↑s.conts.length:Int))) ((need (ixB (Prod.fst s_1.2) (↑s.conts.length:Int)) (br ((s.conts.getD (Int.toNat (Prod.fst s_1.2)) dCt).id != id) (need (ixB (Prod.fst s_1.2) (↑s.conts.length:Int)) (need (((0:Nat)+List.length s_1.1).beq (List.length s_1.1)) (need (aX (List.length s_1.1+(1:Nat)) (72:Nat)&&((0:Nat)+List.length s_1.1).ble (List.length s_1.1)) (need ((List.length s_1.1+(1:Nat)).beq (@aR Ct (0:Nat) (List.length s_1.1) s_1.1++[s.conts.getD (Int.toNat (Prod.fst s_1.2)) dCt]).length) (ret (Sum.inl (@aR Ct (0:Nat) (List.length s_1.1) s_1.1++[s.conts.getD (Int.toNat (Prod.fst s_1.2)) dCt],()))))))) (need ((List.length s_1.1).beq (List.length s_1.1)) (ret (Sum.inl (s_1.1,())))))).join fun(s_2:List Ct×Unit)=>need ((List.length s_2.1).beq (List.length s_2.1)) (ret (Sum.inl (s_2.1,w64 (Prod.fst s_1.2+(1:Int)),())))) (need (((0:Nat)+List.length s_1.1).ble (List.length s_1.1)&&true) (need (((0:Nat)+List.length s_1.1).ble (List.length s_1.1)&&true&&true) (need (((0:Nat)+List.length s_1.1).ble (List.length s_1.1)&&true&&true) (ret (Sum.inr (Se.mk s.conf s.nodes s.apps (@aH Ct (0:Nat) ((0:Nat)+List.length s_1.1) s_1.1) s.slots s.plans s.now s.epoch s.seq,()))))))
theorem zCS(s:Se)(id:Int)(r:(Se×Unit)):(tree hd0 qRQ qRR 146 [.rcd 39,.int .i64] [.rcd 39] (s,id,())).G r=(qJJ s id).G r:=by kernel_rfl
def qJK(id:Nat)(st:St aC.T):Option (List Ld):=match id with
 | 3=>some ([aY st 3 3 false]++[.slot 4 (.int .i64)])
 | _=>none
def qJL(id:Nat)(st:St aC.T):Option (List Ld):=match id with
 | 4=>some ([aY st 3 3 false])
 | _=>none
def qEd(s:Se):DT (List Int×Unit) :=
 loop ([],(0:Int),()) fun(s_1:List Int×Int×Unit)=>br (decide (Prod.fst s_1.2<(↑s.apps.length:Int))) ((need (ixB (Prod.fst s_1.2) (↑s.apps.length:Int)) (br ((s.apps.getD (Int.toNat (Prod.fst s_1.2)) dAp).state==(2:Int)) (need (ixB (Prod.fst s_1.2) (↑s.apps.length:Int)) (br (decide (w64 (s.now-(s.apps.getD (Int.toNat (Prod.fst s_1.2)) dAp).seen)≥(15:Int))) (need (ixB (Prod.fst s_1.2) (↑s.apps.length:Int)) (need (((0:Nat)+List.length s_1.1).beq (List.length s_1.1)) (need (aX (List.length s_1.1+(1:Nat)) (8:Nat)&&((0:Nat)+List.length s_1.1).ble (List.length s_1.1)) (need ((List.length s_1.1+(1:Nat)).beq (@aR Int (0:Nat) (List.length s_1.1) s_1.1++[(s.apps.getD (Int.toNat (Prod.fst s_1.2)) dAp).id]).length) (ret (Sum.inl (@aR Int (0:Nat) (List.length s_1.1) s_1.1++[(s.apps.getD (Int.toNat (Prod.fst s_1.2)) dAp).id],()))))))) (need ((List.length s_1.1).beq (List.length s_1.1)) (ret (Sum.inl (s_1.1,())))))) (need ((List.length s_1.1).beq (List.length s_1.1)) (ret (Sum.inl (s_1.1,())))))).join fun(s_2:List Int×Unit)=>need ((List.length s_2.1).beq (List.length s_2.1)) (ret (Sum.inl (s_2.1,w64 (Prod.fst s_1.2+(1:Int)),())))) (need (((0:Nat)+List.length s_1.1).ble (List.length s_1.1)) (ret (Sum.inr (@aH Int (0:Nat) ((0:Nat)+List.length s_1.1) s_1.1,()))))
theorem qVk(s:Se)(r:(List Int×Unit)):(tree hd0 qJK qJL 152 [.rcd 39] [.dat 3] (s,())).G r=(qEd s).G r:=by kernel_rfl
end Go.Proofs.YtehpnjmgjmkjaaaGreatDoor
