/- Part of the proof. No conditions. -/
import Derived.Test.YtehpnjmgjmkjaaaGreatDoorRc
noncomputable section
namespace Go.Proofs.YtehpnjmgjmkjaaaGreatDoor
open Go Go.W Go.Proofs
open Go.W.DT (ret need br bad loop join)
set_option maxRecDepth 100000
def qXA(id:Nat)(_st:St aC.T):Option (List Ld):=match id with
 | 2=>some ([.slot 6 (.int .i64)])
 | _=>none
def qPI(c:Cf)(path:B):DT (Qu×Bool×Unit) :=
 loop ((0:Int),()) fun(s:Int×Unit)=>br (decide (s.1<(↑c.queues.length:Int))) (need (ixB s.1 (↑c.queues.length:Int)) (br ((c.queues.getD (Int.toNat s.1) dQu).path==path) (need (ixB s.1 (↑c.queues.length:Int)) (need (aX ((0:Nat)+(c.queues.getD (Int.toNat s.1) dQu).caps.length) (16:Nat)&&true) (need (((0:Nat)+((0:Nat)+(c.queues.getD (Int.toNat s.1) dQu).caps.length)).ble ([]++(c.queues.getD (Int.toNat s.1) dQu).caps).length&&true&&true) (need (((0:Nat)+((0:Nat)+(c.queues.getD (Int.toNat s.1) dQu).caps.length)).ble ([]++(c.queues.getD (Int.toNat s.1) dQu).caps).length&&true&&true) (need (((0:Nat)+((0:Nat)+(c.queues.getD (Int.toNat s.1) dQu).caps.length)).ble ([]++(c.queues.getD (Int.toNat s.1) dQu).caps).length&&true&&true) (ret (Sum.inr (Qu.mk (c.queues.getD (Int.toNat s.1) dQu).path (@aH Cp (0:Nat) ((0:Nat)+((0:Nat)+(c.queues.getD (Int.toNat s.1) dQu).caps.length)) ([]++(c.queues.getD (Int.toNat s.1) dQu).caps)) (c.queues.getD (Int.toNat s.1) dQu).user,true,())))))))) (ret (Sum.inl (w64 (s.1+(1:Int)),()))))) (ret (Sum.inr (dQu,false,())))
theorem zGI(c:Cf)(path:B)(r:(Qu×Bool×Unit)):(tree hd2 qXA noL 110 [.rcd 32,.str] [.rcd 114,.bool] (c,path,())).G r=(qPI c path).G r:=by kernel_rfl
def qXB(id:Nat)(st:St aC.T):Option (List Ld):=match id with
 | 3=>some ([aY st 5 9 false]++[.slot 6 (.int .i64)])
 | _=>none
def qXC(id:Nat)(st:St aC.T):Option (List Ld):=match id with
 | 4=>some ([aY st 5 9 false])
 | _=>none
def qPJ(c:Cf)(path:B):DT (List (List UInt8)×Unit) :=
 loop ([],(0:Int),()) fun(s:List (List UInt8)×Int×Unit)=>br (decide (s.2.1<(↑c.queues.length:Int))) ((br (!path==[]) (need (ixB s.2.1 (↑c.queues.length:Int)) (need (sm (List.length (c.queues.getD (Int.toNat s.2.1) dQu).path)) (br (shut eZ (c.queues.getD (Int.toNat s.2.1) dQu).path==path) (need (ixB s.2.1 (↑c.queues.length:Int)) (need (((0:Nat)+s.1.length).beq s.1.length) (need (aX (s.1.length+(1:Nat)) (16:Nat)&&((0:Nat)+s.1.length).ble s.1.length) (need ((s.1.length+(1:Nat)).beq (@aR (List UInt8) (0:Nat) s.1.length s.1++[(c.queues.getD (Int.toNat s.2.1) dQu).path]).length) (ret (Sum.inl (@aR (List UInt8) (0:Nat) s.1.length s.1++[(c.queues.getD (Int.toNat s.2.1) dQu).path],()))))))) (need (s.1.length.beq s.1.length) (ret (Sum.inl (s.1,()))))))) (need (s.1.length.beq s.1.length) (ret (Sum.inl (s.1,()))))).join fun(s_1:List (List UInt8)×Unit)=>need (s_1.1.length.beq s_1.1.length) (ret (Sum.inl (s_1.1,w64 (s.2.1+(1:Int)),())))) (need (((0:Nat)+s.1.length).ble s.1.length) (ret (Sum.inr (@aH (List UInt8) (0:Nat) ((0:Nat)+s.1.length) s.1,()))))
theorem zGJ(c:Cf)(path:B)(r:(List (List UInt8)×Unit)):(tree hd2 qXB qXC 68 [.rcd 32,.str] [.dat 9] (c,path,())).G r=(qPJ c path).G r:=by kernel_rfl
def zI7(id:Nat)(st:St aC.T):Option (List Ld):=match id with
 | 2=>some ([aY st 3 9 false]++[.slot 0 (.str)])
 | _=>none
def zI8(id:Nat)(st:St aC.T):Option (List Ld):=match id with
 | 4=>some ([aY st 3 9 false])
 | _=>none
def zDu(path:B):DT (List (List UInt8)×Unit) :=
 loop ([],path,()) fun(s:List (List UInt8)×List UInt8×Unit)=>br (!s.2.1==[]) ((need (((0:Nat)+s.1.length).beq s.1.length) (need (aX (s.1.length+(1:Nat)) (16:Nat)&&((0:Nat)+s.1.length).ble s.1.length) (need ((s.1.length+(1:Nat)).beq (@aR (List UInt8) (0:Nat) s.1.length s.1++[s.2.1]).length) (ret (Sum.inl (@aR (List UInt8) (0:Nat) s.1.length s.1++[s.2.1],())))))).join fun(s_1:List (List UInt8)×Unit)=>need (sm s.2.1.length) (need (s_1.1.length.beq s_1.1.length) (ret (Sum.inl (s_1.1,shut eZ s.2.1,()))))) (need (((0:Nat)+s.1.length).ble s.1.length) (ret (Sum.inr (@aH (List UInt8) (0:Nat) ((0:Nat)+s.1.length) s.1,()))))
theorem zL8(path:B)(r:(List (List UInt8)×Unit)):(tree hd2 zI7 zI8 390 [.str] [.dat 9] (path,())).G r=(zDu path).G r:=by kernel_rfl
def qBF(s:Se)(n:Nd):DT (Se×Int×Unit) :=
 br (decide (n.id<(0:Int))) (ret (s,(1:Int),())) (br (decide (n.id>(999:Int))) (ret (s,(1:Int),())) (br (decide (n.label<(0:Int))) (ret (s,(1:Int),())) (br (decide (n.label≥(↑s.conf.labels.length:Int))) (ret (s,(1:Int),())) (br (decide (n.rack<(0:Int))) (ret (s,(1:Int),())) (br (decide (n.rack>(99:Int))) (ret (s,(1:Int),())) (br (decide (n.cap.mem≥(0:Int))) (br (!decide (n.cap.mem≤(1073741824:Int))) (ret (s,(1:Int),())) (br (decide (n.cap.cores≥(0:Int))) (br (!decide (n.cap.cores≤(1073741824:Int))) (ret (s,(1:Int),())) (need (bC s) (br (shut aQ s n.id).2 (br (shut aQ s n.id).1.up (ret (s,(7:Int),())) (br (!(shut aQ s n.id).2) (br (decide ((↑s.nodes.length:Int)≥(12:Int))) (ret (s,(4:Int),())) (need (bC s) (ret (shut wJ s (Nd.mk n.id n.label n.rack n.cap s.now (0:Int) true),(0:Int),())))) (need (bC s) (ret (shut wJ s (Nd.mk n.id n.label n.rack n.cap s.now (0:Int) true),(0:Int),()))))) (br (!(shut aQ s n.id).2) (br (decide ((↑s.nodes.length:Int)≥(12:Int))) (ret (s,(4:Int),())) (need (bC s) (ret (shut wJ s (Nd.mk n.id n.label n.rack n.cap s.now (0:Int) true),(0:Int),())))) (need (bC s) (ret (shut wJ s (Nd.mk n.id n.label n.rack n.cap s.now (0:Int) true),(0:Int),()))))))) (ret (s,(1:Int),())))) (ret (s,(1:Int),()))))))))
theorem qSj(s:Se)(n:Nd)(r:(Se×Int×Unit)):(tree hd2 noL noL 57 [.rcd 39,.rcd 57] [.rcd 39,.int .i64] (s,n,())).G r=(qBF s n).G r:=by kernel_rfl
def qXD(id:Nat)(st:St aC.T):Option (List Ld):=match id with
 | 12=>some (bK st 6 [.rcd 39])
 | _=>none
def qPK(s:Se)(id:Int)(beat:Int):DT (Se×Int×Unit) :=
 need (bC s) ((br (!(shut aQ s id).2) (ret (Sum.inr (s,(2:Int),()))) (br (!(shut aQ s id).1.up) (ret (Sum.inr (s,(18:Int),()))) (br (decide (beat<(0:Int))) (ret (Sum.inr (s,(15:Int),()))) (br (decide (beat<(shut aQ s id).1.beat)) (ret (Sum.inr (s,(15:Int),()))) (br (decide (w64 (beat-(shut aQ s id).1.beat)>(1:Int))) (ret (Sum.inr (s,(1:Int),()))) (ret (Sum.inl ((dSe,()),())))))))).join fun(_s_1:(Se×Unit)×Unit)=>need (bC s) (ret (shut wJ s (Nd.mk (shut aQ s id).1.id (shut aQ s id).1.label (shut aQ s id).1.rack (shut aQ s id).1.cap s.now beat (shut aQ s id).1.up),(0:Int),())))
theorem zGK(s:Se)(id:Int)(beat:Int)(r:(Se×Int×Unit)):(tree hd2 noL qXD 136 [.rcd 39,.int .i64,.int .i64] [.rcd 39,.int .i64] (s,id,beat,())).G r=(qPK s id beat).G r:=by kernel_rfl
def qPL(s:Se)(id:Int):DT (Se×Unit) :=
 need (bC s) (br (!(shut aQ s id).2) (ret (s,())) (need (bC s) (ret (shut wJ s (Nd.mk (shut aQ s id).1.id (shut aQ s id).1.label (shut aQ s id).1.rack (shut aQ s id).1.cap (shut aQ s id).1.seen (shut aQ s id).1.beat false),()))))
theorem zGL(s:Se)(id:Int)(r:(Se×Unit)):(tree hd2 noL noL 151 [.rcd 39,.int .i64] [.rcd 39] (s,id,())).G r=(qPL s id).G r:=by kernel_rfl
def qPM(s:Se)(id:Int):DT (Vec×Unit) :=
 need (bC s) (br (!(shut aQ s id).2) (ret (gG,())) (br (!(shut aQ s id).1.up) (ret (gG,())) (need (bC s) (ret (Vec.mk (if(0:Int)>w64 ((shut aQ s id).1.cap.mem-(shut qDE s id).mem) then(0:Int) else w64 ((shut aQ s id).1.cap.mem-(shut qDE s id).mem)) (if(0:Int)>w64 ((shut aQ s id).1.cap.cores-(shut qDE s id).cores) then(0:Int) else w64 ((shut aQ s id).1.cap.cores-(shut qDE s id).cores)),())))))
theorem zGM(s:Se)(id:Int)(r:(Vec×Unit)):(tree hd2 noL noL 330 [.rcd 39,.int .i64] [.rcd 27] (s,id,())).G r=(qPM s id).G r:=by kernel_rfl
def qKb(x:Ak)(labels:Int):DT (Int×Unit) :=
 br (decide (x.prio<(0:Int))) (ret ((1:Int),())) (br (decide (x.prio>(9:Int))) (ret ((1:Int),())) (br (decide (x.label<(0:Int))) (ret ((1:Int),())) (br (decide (x.label≥labels)) (ret ((1:Int),())) (br (decide (x.size.mem≥(1:Int))) (br (!decide (x.size.mem≤(1073741824:Int))) (ret ((1:Int),())) (br (decide (x.size.cores≥(1:Int))) (br (!decide (x.size.cores≤(1073741824:Int))) (ret ((1:Int),())) (br (decide (x.node<(-1:Int))) (ret ((1:Int),())) (br (decide (x.node>(999:Int))) (ret ((1:Int),())) (br (decide (x.rack<(-1:Int))) (ret ((1:Int),())) (br (decide (x.rack>(99:Int))) (ret ((1:Int),())) (br (decide (x.node≥(0:Int))) (br (decide (x.rack<(0:Int))) (ret ((1:Int),())) (br (decide (x.count<(0:Int))) (ret ((4:Int),())) (br (decide (x.count>(50:Int))) (ret ((4:Int),())) (ret ((0:Int),()))))) (br (decide (x.count<(0:Int))) (ret ((4:Int),())) (br (decide (x.count>(50:Int))) (ret ((4:Int),())) (ret ((0:Int),())))))))))) (ret ((1:Int),())))) (ret ((1:Int),()))))))
theorem zDv(x:Ak)(labels:Int)(r:(Int×Unit)):(tree hd2 noL noL 226 [.rcd 95,.int .i64] [.int .i64] (x,labels,())).G r=(qKb x labels).G r:=by kernel_rfl
def qPN(s:Se)(id:Int)(state:Int):DT (Se×List Int×Unit) :=
 need (bC s) (br (!(shut aB s id).2) (ret (s,[],())) (br ((shut aB s id).1.state==(1:Int)) (need (bC s) (need (bC (shut dQ s (Ap.mk (shut aB s id).1.id state (shut aB s id).1.queue (shut aB s id).1.user (shut aB s id).1.prio (shut aB s id).1.master [] (shut aB s id).1.seen (shut aB s id).1.beat [] [] [] []))) (ret ((shut nE (shut dQ s (Ap.mk (shut aB s id).1.id state (shut aB s id).1.queue (shut aB s id).1.user (shut aB s id).1.prio (shut aB s id).1.master [] (shut aB s id).1.seen (shut aB s id).1.beat [] [] [] [])) id).1,(shut nE (shut dQ s (Ap.mk (shut aB s id).1.id state (shut aB s id).1.queue (shut aB s id).1.user (shut aB s id).1.prio (shut aB s id).1.master [] (shut aB s id).1.seen (shut aB s id).1.beat [] [] [] [])) id).2,())))) (br (!(shut aB s id).1.state==(2:Int)) (ret (s,[],())) (need (bC s) (need (bC (shut dQ s (Ap.mk (shut aB s id).1.id state (shut aB s id).1.queue (shut aB s id).1.user (shut aB s id).1.prio (shut aB s id).1.master [] (shut aB s id).1.seen (shut aB s id).1.beat [] [] [] []))) (ret ((shut nE (shut dQ s (Ap.mk (shut aB s id).1.id state (shut aB s id).1.queue (shut aB s id).1.user (shut aB s id).1.prio (shut aB s id).1.master [] (shut aB s id).1.seen (shut aB s id).1.beat [] [] [] [])) id).1,(shut nE (shut dQ s (Ap.mk (shut aB s id).1.id state (shut aB s id).1.queue (shut aB s id).1.user (shut aB s id).1.prio (shut aB s id).1.master [] (shut aB s id).1.seen (shut aB s id).1.beat [] [] [] [])) id).2,())))))))
theorem zGN(s:Se)(id:Int)(state:Int)(r:(Se×List Int×Unit)):(tree hd2 noL noL 148 [.rcd 39,.int .i64,.int .i64] [.rcd 39,.dat 3] (s,id,state,())).G r=(qPN s id state).G r:=by kernel_rfl
def qSk(id:Nat)(st:St aC.T):Option (List Ld):=match id with
 | 3=>some ([aY st 6 59 false]++[.slot 7 (.int .i64)])
 | _=>none
def qSl(id:Nat)(st:St aC.T):Option (List Ld):=match id with
 | 4=>some ([aY st 6 59 false])
 | 7=>some ([aY st 6 59 false])
 | _=>none
def qKc(s:Se)(id:Int):DT (Se×Int×Unit) :=
 (loop ([],(0:Int),()) fun(s_1:List Pn×Int×Unit)=>br (decide (s_1.2.1<(↑s.plans.length:Int))) ((need (ixB s_1.2.1 (↑s.plans.length:Int)) (br ((s.plans.getD (Int.toNat s_1.2.1) dPn).id != id) (need (ixB s_1.2.1 (↑s.plans.length:Int)) (need (((0:Nat)+s_1.1.length).beq s_1.1.length) (need (aX (s_1.1.length+(1:Nat)) (48:Nat)&&((0:Nat)+s_1.1.length).ble s_1.1.length) (need ((s_1.1.length+(1:Nat)).beq (@aR Pn (0:Nat) s_1.1.length s_1.1++[s.plans.getD (Int.toNat s_1.2.1) dPn]).length) (ret (Sum.inl (@aR Pn (0:Nat) s_1.1.length s_1.1++[s.plans.getD (Int.toNat s_1.2.1) dPn],()))))))) (need (s_1.1.length.beq s_1.1.length) (ret (Sum.inl (s_1.1,())))))).join fun(s_2:List Pn×Unit)=>need (s_2.1.length.beq s_2.1.length) (ret (Sum.inl (s_2.1,w64 (s_1.2.1+(1:Int)),())))) (need (s_1.1.length.beq s_1.1.length) (ret (Sum.inr (Sum.inl (s_1.1,())))))).join fun(s_1:List Pn×Unit)=>br ((↑s_1.1.length:Int)==(↑s.plans.length:Int)) (ret (s,(2:Int),())) (need (((0:Nat)+s_1.1.length).ble s_1.1.length&&true&&true) (need (((0:Nat)+s_1.1.length).ble s_1.1.length&&true&&true) (need (((0:Nat)+s_1.1.length).ble s_1.1.length&&true&&true) (ret (Se.mk s.conf s.nodes s.apps s.conts s.slots (@aH Pn (0:Nat) ((0:Nat)+s_1.1.length) s_1.1) s.now s.epoch s.seq,(0:Int),())))))
theorem zDw(s:Se)(id:Int)(r:(Se×Int×Unit)):(tree hd2 qSk qSl 64 [.rcd 39,.int .i64] [.rcd 39,.int .i64] (s,id,())).G r=(qKc s id).G r:=by kernel_rfl
def qSm(id:Nat)(st:St aC.T):Option (List Ld):=match id with
 | 3=>some ([aY st 5 3 false]++[.slot 6 (.int .i64)])
 | _=>none
def qSn(id:Nat)(st:St aC.T):Option (List Ld):=match id with
 | 4=>some ([aY st 5 3 false])
 | _=>none
def qKd(was:Se)(now:Se):DT (List Int×Unit) :=
 loop ([],(0:Int),()) fun(s:List Int×Int×Unit)=>br (decide (s.2.1<(↑was.conts.length:Int))) ((need (ixB s.2.1 (↑was.conts.length:Int)) (need (bC now) (br (!(shut aD now (was.conts.getD (Int.toNat s.2.1) dCt).id).2) (need (ixB s.2.1 (↑was.conts.length:Int)) (need (((0:Nat)+s.1.length).beq s.1.length) (need (aX (s.1.length+(1:Nat)) (8:Nat)&&((0:Nat)+s.1.length).ble s.1.length) (need ((s.1.length+(1:Nat)).beq (@aR Int (0:Nat) s.1.length s.1++[(was.conts.getD (Int.toNat s.2.1) dCt).id]).length) (ret (Sum.inl (@aR Int (0:Nat) s.1.length s.1++[(was.conts.getD (Int.toNat s.2.1) dCt).id],()))))))) (need (s.1.length.beq s.1.length) (ret (Sum.inl (s.1,()))))))).join fun(s_1:List Int×Unit)=>need (s_1.1.length.beq s_1.1.length) (ret (Sum.inl (s_1.1,w64 (s.2.1+(1:Int)),())))) (need (((0:Nat)+s.1.length).ble s.1.length) (ret (Sum.inr (@aH Int (0:Nat) ((0:Nat)+s.1.length) s.1,()))))
theorem zDx(was:Se)(now:Se)(r:(List Int×Unit)):(tree hd2 qSm qSn 155 [.rcd 39,.rcd 39] [.dat 3] (was,now,())).G r=(qKd was now).G r:=by kernel_rfl
def qNh(id:Nat)(st:St aC.T):Option (List Ld):=match id with
 | 3=>some ([aY st 5 50 false]++[.slot 6 (.int .i64)])
 | _=>none
def qNi(id:Nat)(st:St aC.T):Option (List Ld):=match id with
 | 4=>some ([aY st 5 50 false])
 | _=>none
def qG7(s:Se)(ids:List Int):DT (List Ct×Unit) :=
 loop ([],(0:Int),()) fun(s_1:List Ct×Int×Unit)=>br (decide (s_1.2.1<(↑ids.length:Int))) ((need (ixB s_1.2.1 (↑ids.length:Int)) (need (bC s) (br (shut aD s (ids.getD (Int.toNat s_1.2.1) (0:Int))).2 (need (((0:Nat)+s_1.1.length).beq s_1.1.length) (need (aX (s_1.1.length+(1:Nat)) (72:Nat)&&((0:Nat)+s_1.1.length).ble s_1.1.length) (need ((s_1.1.length+(1:Nat)).beq (@aR Ct (0:Nat) s_1.1.length s_1.1++[(shut aD s (ids.getD (Int.toNat s_1.2.1) (0:Int))).1]).length) (ret (Sum.inl (@aR Ct (0:Nat) s_1.1.length s_1.1++[(shut aD s (ids.getD (Int.toNat s_1.2.1) (0:Int))).1],())))))) (need (s_1.1.length.beq s_1.1.length) (ret (Sum.inl (s_1.1,()))))))).join fun(s_2:List Ct×Unit)=>need (s_2.1.length.beq s_2.1.length) (ret (Sum.inl (s_2.1,w64 (s_1.2.1+(1:Int)),())))) (need (((0:Nat)+s_1.1.length).ble s_1.1.length) (ret (Sum.inr (@aH Ct (0:Nat) ((0:Nat)+s_1.1.length) s_1.1,()))))
theorem qZY(s:Se)(ids:List Int)(r:(List Ct×Unit)):(tree hd2 qNh qNi 143 [.rcd 39,.dat 3] [.dat 50] (s,ids,())).G r=(qG7 s ids).G r:=by kernel_rfl
def qNj(a:Ap):DT (List Ak×Unit) :=
 ret ([Ak.mk (0:Int) (0:Int) a.master (1:Int) (-1:Int) (-1:Int) (0:Int)],())
theorem qZZ(a:Ap)(r:(List Ak×Unit)):(tree hd2 noL noL 142 [.rcd 47] [.dat 95] (a,())).G r=(qNj a).G r:=by kernel_rfl
def qSo(id:Nat)(st:St aC.T):Option (List Ld):=match id with
 | 2=>some ([.slot 5 (.int .i64)]++bK st 2 [.rcd 39])
 | _=>none
def qSp(id:Nat)(st:St aC.T):Option (List Ld):=match id with
 | 3=>some (bK st 2 [.rcd 39])
 | _=>none
def qKe(s:Se)(ids:List Int):DT (Se×Unit) :=
 loop ((0:Int),(s,()),()) fun(s_1:Int×(Se×Unit)×Unit)=>br (decide (s_1.1<(↑ids.length:Int))) ((need (ixB s_1.1 (↑ids.length:Int)) (need (bC s_1.2.1.1) (br (!(shut aD s_1.2.1.1 (ids.getD (Int.toNat s_1.1) (0:Int))).2) (ret (Sum.inl ((s_1.2.1.1,()),()))) (need (bC s_1.2.1.1) (br (shut aD s_1.2.1.1 (ids.getD (Int.toNat s_1.1) (0:Int))).1.master (need (bC s_1.2.1.1) (need (bC (shut dQ s_1.2.1.1 (Ap.mk (shut aB s_1.2.1.1 (shut aD s_1.2.1.1 (ids.getD (Int.toNat s_1.1) (0:Int))).1.app).1.id (1:Int) (shut aB s_1.2.1.1 (shut aD s_1.2.1.1 (ids.getD (Int.toNat s_1.1) (0:Int))).1.app).1.queue (shut aB s_1.2.1.1 (shut aD s_1.2.1.1 (ids.getD (Int.toNat s_1.1) (0:Int))).1.app).1.user (shut aB s_1.2.1.1 (shut aD s_1.2.1.1 (ids.getD (Int.toNat s_1.1) (0:Int))).1.app).1.prio (shut aB s_1.2.1.1 (shut aD s_1.2.1.1 (ids.getD (Int.toNat s_1.1) (0:Int))).1.app).1.master [Ak.mk (0:Int) (0:Int) (shut aB s_1.2.1.1 (shut aD s_1.2.1.1 (ids.getD (Int.toNat s_1.1) (0:Int))).1.app).1.master (1:Int) (-1:Int) (-1:Int) (0:Int)] s_1.2.1.1.now (0:Int) [] [] [] []))) (ret (Sum.inl (((shut nE (shut dQ s_1.2.1.1 (Ap.mk (shut aB s_1.2.1.1 (shut aD s_1.2.1.1 (ids.getD (Int.toNat s_1.1) (0:Int))).1.app).1.id (1:Int) (shut aB s_1.2.1.1 (shut aD s_1.2.1.1 (ids.getD (Int.toNat s_1.1) (0:Int))).1.app).1.queue (shut aB s_1.2.1.1 (shut aD s_1.2.1.1 (ids.getD (Int.toNat s_1.1) (0:Int))).1.app).1.user (shut aB s_1.2.1.1 (shut aD s_1.2.1.1 (ids.getD (Int.toNat s_1.1) (0:Int))).1.app).1.prio (shut aB s_1.2.1.1 (shut aD s_1.2.1.1 (ids.getD (Int.toNat s_1.1) (0:Int))).1.app).1.master [Ak.mk (0:Int) (0:Int) (shut aB s_1.2.1.1 (shut aD s_1.2.1.1 (ids.getD (Int.toNat s_1.1) (0:Int))).1.app).1.master (1:Int) (-1:Int) (-1:Int) (0:Int)] s_1.2.1.1.now (0:Int) [] [] [] [])) (shut aD s_1.2.1.1 (ids.getD (Int.toNat s_1.1)
 (0:Int))).1.app).1,()),()))))) (need (bC s_1.2.1.1) (need (sm (shut aB s_1.2.1.1 (shut aD s_1.2.1.1 (ids.getD (Int.toNat s_1.1) (0:Int))).1.app).1.grants.length) (br (!(shut fA (shut aB s_1.2.1.1 (shut aD s_1.2.1.1 (ids.getD (Int.toNat s_1.1) (0:Int))).1.app).1.grants (shut aD s_1.2.1.1 (ids.getD (Int.toNat s_1.1) (0:Int))).1.id).2) (need (aX ((0:Nat)+(shut aB s_1.2.1.1 (shut aD s_1.2.1.1 (ids.getD (Int.toNat s_1.1) (0:Int))).1.app).1.kills.length) (8:Nat)&&true) (need (((0:Nat)+((0:Nat)+(shut aB s_1.2.1.1 (shut aD s_1.2.1.1 (ids.getD (Int.toNat s_1.1) (0:Int))).1.app).1.kills.length)).beq ([]++(shut aB s_1.2.1.1 (shut aD s_1.2.1.1 (ids.getD (Int.toNat s_1.1) (0:Int))).1.app).1.kills).length) (need (aX ((0:Nat)+(shut aB s_1.2.1.1 (shut aD s_1.2.1.1 (ids.getD (Int.toNat s_1.1) (0:Int))).1.app).1.kills.length+(1:Nat)) (8:Nat)&&((0:Nat)+((0:Nat)+(shut aB s_1.2.1.1 (shut aD s_1.2.1.1 (ids.getD (Int.toNat s_1.1) (0:Int))).1.app).1.kills.length)).ble ([]++(shut aB s_1.2.1.1 (shut aD s_1.2.1.1 (ids.getD (Int.toNat s_1.1) (0:Int))).1.app).1.kills).length) (need (((0:Nat)+((0:Nat)+(shut aB s_1.2.1.1 (shut aD s_1.2.1.1 (ids.getD (Int.toNat s_1.1) (0:Int))).1.app).1.kills.length+(1:Nat))).ble (@aR Int (0:Nat) ((0:Nat)+(shut aB s_1.2.1.1 (shut aD s_1.2.1.1 (ids.getD (Int.toNat s_1.1) (0:Int))).1.app).1.kills.length) ([]++(shut aB s_1.2.1.1 (shut aD s_1.2.1.1 (ids.getD (Int.toNat s_1.1) (0:Int))).1.app).1.kills)++[(shut aD s_1.2.1.1 (ids.getD (Int.toNat s_1.1) (0:Int))).1.id]).length&&true&&true) (need (((0:Nat)+((0:Nat)+(shut aB s_1.2.1.1 (shut aD s_1.2.1.1 (ids.getD (Int.toNat s_1.1) (0:Int))).1.app).1.kills.length+(1:Nat))).ble (@aR Int (0:Nat) ((0:Nat)+(shut aB s_1.2.1.1 (shut aD s_1.2.1.1 (ids.getD (Int.toNat s_1.1) (0 :
 Int))).1.app).1.kills.length) ([]++(shut aB s_1.2.1.1 (shut aD s_1.2.1.1 (ids.getD (Int.toNat s_1.1) (0:Int))).1.app).1.kills)++[(shut aD s_1.2.1.1 (ids.getD (Int.toNat s_1.1) (0:Int))).1.id]).length&&true&&true) (need (bC (shut nD s_1.2.1.1 (shut aD s_1.2.1.1 (ids.getD (Int.toNat s_1.1) (0:Int))).1.id)) (ret (Sum.inl ((shut dQ (shut nD s_1.2.1.1 (shut aD s_1.2.1.1 (ids.getD (Int.toNat s_1.1) (0:Int))).1.id) (Ap.mk (shut aB s_1.2.1.1 (shut aD s_1.2.1.1 (ids.getD (Int.toNat s_1.1) (0:Int))).1.app).1.id (shut aB s_1.2.1.1 (shut aD s_1.2.1.1 (ids.getD (Int.toNat s_1.1) (0:Int))).1.app).1.state (shut aB s_1.2.1.1 (shut aD s_1.2.1.1 (ids.getD (Int.toNat s_1.1) (0:Int))).1.app).1.queue (shut aB s_1.2.1.1 (shut aD s_1.2.1.1 (ids.getD (Int.toNat s_1.1) (0:Int))).1.app).1.user (shut aB s_1.2.1.1 (shut aD s_1.2.1.1 (ids.getD (Int.toNat s_1.1) (0:Int))).1.app).1.prio (shut aB s_1.2.1.1 (shut aD s_1.2.1.1 (ids.getD (Int.toNat s_1.1) (0:Int))).1.app).1.master (shut aB s_1.2.1.1 (shut aD s_1.2.1.1 (ids.getD (Int.toNat s_1.1) (0:Int))).1.app).1.asks (shut aB s_1.2.1.1 (shut aD s_1.2.1.1 (ids.getD (Int.toNat s_1.1) (0:Int))).1.app).1.seen (shut aB s_1.2.1.1 (shut aD s_1.2.1.1 (ids.getD (Int.toNat s_1.1) (0:Int))).1.app).1.beat (shut fA (shut aB s_1.2.1.1 (shut aD s_1.2.1.1 (ids.getD (Int.toNat s_1.1) (0:Int))).1.app).1.grants (shut aD s_1.2.1.1 (ids.getD (Int.toNat s_1.1) (0:Int))).1.id).1 (@aH Int (0:Nat) ((0:Nat)+((0:Nat)+(shut aB s_1.2.1.1 (shut aD s_1.2.1.1 (ids.getD (Int.toNat s_1.1) (0:Int))).1.app).1.kills.length+(1:Nat))) (@aR Int (0:Nat) ((0:Nat)+(shut aB s_1.2.1.1 (shut aD s_1.2.1.1 (ids.getD (Int.toNat s_1.1) (0:Int))).1.app).1.kills.length) ([]++(shut aB s_1.2.1.1 (shut aD s_1.2.1.1 (ids.getD (Int.toNat s_1.1) (0:Int))).1.app).1.kills)++[(shut aD
 s_1.2.1.1 (ids.getD (Int.toNat s_1.1) (0:Int))).1.id])) (shut aB s_1.2.1.1 (shut aD s_1.2.1.1 (ids.getD (Int.toNat s_1.1) (0:Int))).1.app).1.told (shut aB s_1.2.1.1 (shut aD s_1.2.1.1 (ids.getD (Int.toNat s_1.1) (0:Int))).1.app).1.lost),()),()))))))))) (need (bC (shut nD s_1.2.1.1 (shut aD s_1.2.1.1 (ids.getD (Int.toNat s_1.1) (0:Int))).1.id)) (ret (Sum.inl ((shut dQ (shut nD s_1.2.1.1 (shut aD s_1.2.1.1 (ids.getD (Int.toNat s_1.1) (0:Int))).1.id) (Ap.mk (shut aB s_1.2.1.1 (shut aD s_1.2.1.1 (ids.getD (Int.toNat s_1.1) (0:Int))).1.app).1.id (shut aB s_1.2.1.1 (shut aD s_1.2.1.1 (ids.getD (Int.toNat s_1.1) (0:Int))).1.app).1.state (shut aB s_1.2.1.1 (shut aD s_1.2.1.1 (ids.getD (Int.toNat s_1.1) (0:Int))).1.app).1.queue (shut aB s_1.2.1.1 (shut aD s_1.2.1.1 (ids.getD (Int.toNat s_1.1) (0:Int))).1.app).1.user (shut aB s_1.2.1.1 (shut aD s_1.2.1.1 (ids.getD (Int.toNat s_1.1) (0:Int))).1.app).1.prio (shut aB s_1.2.1.1 (shut aD s_1.2.1.1 (ids.getD (Int.toNat s_1.1) (0:Int))).1.app).1.master (shut aB s_1.2.1.1 (shut aD s_1.2.1.1 (ids.getD (Int.toNat s_1.1) (0:Int))).1.app).1.asks (shut aB s_1.2.1.1 (shut aD s_1.2.1.1 (ids.getD (Int.toNat s_1.1) (0:Int))).1.app).1.seen (shut aB s_1.2.1.1 (shut aD s_1.2.1.1 (ids.getD (Int.toNat s_1.1) (0:Int))).1.app).1.beat (shut fA (shut aB s_1.2.1.1 (shut aD s_1.2.1.1 (ids.getD (Int.toNat s_1.1) (0:Int))).1.app).1.grants (shut aD s_1.2.1.1 (ids.getD (Int.toNat s_1.1) (0:Int))).1.id).1 (shut aB s_1.2.1.1 (shut aD s_1.2.1.1 (ids.getD (Int.toNat s_1.1) (0:Int))).1.app).1.kills (shut aB s_1.2.1.1 (shut aD s_1.2.1.1 (ids.getD (Int.toNat s_1.1) (0:Int))).1.app).1.told (shut aB s_1.2.1.1 (shut aD s_1.2.1.1 (ids.getD (Int.toNat s_1.1) (0:Int))).1.app).1.lost),()),())))))))))))).join fun(s_2:(Se×Unit)×Unit)=>ret (Sum.inl (w64 (s_1.1+(1:Int)),
 (s_2.1.1,()),()))) (ret (Sum.inr (s_1.2.1.1,())))
theorem zDy(s:Se)(ids:List Int)(r:(Se×Unit)):(tree hd2 qSo qSp 137 [.rcd 39,.dat 3] [.rcd 39] (s,ids,())).G r=(qKe s ids).G r:=by kernel_rfl
def qG8(a:Ak)(n:Nd):DT (Int×Unit) :=
 br (!n.up) (ret ((4:Int),())) (br (n.label != a.label) (ret ((4:Int),())) (br (a.rack==(-1:Int)) (ret ((1:Int),())) (br (a.node==n.id) (ret ((1:Int),())) (br (a.node==(-1:Int)) (br (a.rack==n.rack) (ret ((1:Int),())) (br (a.rack==n.rack) (ret ((2:Int),())) (ret ((3:Int),())))) (br (a.rack==n.rack) (ret ((2:Int),())) (ret ((3:Int),())))))))
theorem zAa(a:Ak)(n:Nd)(r:(Int×Unit)):(tree hd2 noL noL 386 [.rcd 95,.rcd 57] [.int .i64] (a,n,())).G r=(qG8 a n).G r:=by kernel_rfl
def qPO(a:Ak)(n:Nd):DT (Bool×Unit) :=
 br (!n.up) (ret (false,())) (br (n.label != a.label) (ret (false,())) (br (a.rack==(-1:Int)) (ret (true,())) (br (a.node==n.id) (ret (true,())) (br (a.node==(-1:Int)) (br (a.rack==n.rack) (ret (true,())) (br (a.rack==n.rack) (ret (decide (a.missed≥(2:Int)),())) (ret (decide (a.missed≥(4:Int)),())))) (br (a.rack==n.rack) (ret (decide (a.missed≥(2:Int)),())) (ret (decide (a.missed≥(4:Int)),())))))))
theorem zGO(a:Ak)(n:Nd)(r:(Bool×Unit)):(tree hd2 noL noL 327 [.rcd 95,.rcd 57] [.bool] (a,n,())).G r=(qPO a n).G r:=by kernel_rfl
def qKf(n:Int):DT (Bool×Unit) :=
 br (decide (n≥(1:Int))) (ret (decide (n≤(1073741824:Int)),())) (ret (false,()))
theorem zDz(n:Int)(r:(Bool×Unit)):(tree hd2 noL noL 139 [.int .i64] [.bool] (n,())).G r=(qKf n).G r:=by kernel_rfl
end Go.Proofs.YtehpnjmgjmkjaaaGreatDoor
namespace Go.Proofs.YtehpnjmgjmkjaaaGreatDoor
open Go Go.W Go.Proofs
set_option maxRecDepth 100000
def wT(a:Ap):List Ak:=[⟨0,0,a.master,1,-1,-1,0⟩]
theorem zAb(a:Ap):(qNj a).G (wT a,()):=rfl
def vT(n:Int):Bool:=decide (n≥1)&&decide (n≤1073741824)
def qAA(a:Ak)(n:Nd):Int :=
 bif !n.up||n.label != a.label then 4 else bif a.rack == -1||a.node==n.id||a.node == -1&&a.rack==n.rack then 1 else bif a.rack==n.rack then 2 else 3
def qBf(a:Ak)(n:Nd):Bool :=
 bif !n.up||n.label != a.label then false else bif a.rack == -1||a.node==n.id||a.node == -1&&a.rack==n.rack then true else bif a.rack==n.rack then decide (a.missed≥2) else decide (a.missed≥4)
def dA(s:Se)(id b:Int):Se×Int :=
 bif !(aQ s id).2 then(s,2) else bif !(aQ s id).1.up then(s,18) else bif decide (b<0)||decide (b<(aQ s id).1.beat) then(s,15)
 else bif decide (w64 (b-(aQ s id).1.beat)>1) then(s,1) else(wJ s { (aQ s id).1 with seen:=s.now,beat:=b },0)
def wU(s:Se)(id:Int):Se:=bif !(aQ s id).2 then s else wJ s { (aQ s id).1 with up:=false }
def sH(s:Se)(id:Int):Vec :=
 bif !(aQ s id).2||!(aQ s id).1.up then gG else⟨(if 0>w64 ((aQ s id).1.cap.mem-(qDE s id).mem) then 0 else w64 ((aQ s id).1.cap.mem-(qDE s id).mem)),(if 0>w64 ((aQ s id).1.cap.cores-(qDE s id).cores) then 0 else w64 ((aQ s id).1.cap.cores-(qDE s id).cores))⟩
theorem zD0(n:Int):(qKf n).G (vT n,()):=by
 unfold qKf vT
 refine aF ?_
 cases decide (n≥1)<;>rfl
theorem zAc(a:Ak)(n:Nd):(qG8 a n).G (qAA a n,()):=by
 unfold qG8 qAA
 refine aF ?_
 cases n.up<;>cases n.label != a.label<;>cases a.rack == -1<;>cases a.node==n.id<;>cases a.node == -1<;>cases a.rack==n.rack<;>rfl
theorem zGP(a:Ak)(n:Nd):(qPO a n).G (qBf a n,()):=by
 unfold qPO qBf
 refine aF ?_
 cases n.up<;>cases n.label != a.label<;>cases a.rack == -1<;>cases a.node==n.id<;>cases a.node == -1<;>cases a.rack==n.rack<;>rfl
theorem zGQ{s:Se}(id b:Int)(h:dV s):(qPK s id b).G ((dA s id b).1,(dA s id b).2,()):=by
 unfold qPK dA
 refine aF ?_
 simp only[aN,aO.2 h,dN,fC,dE,jJ,cond_true]
 cases (aQ s id).2<;>cases (aQ s id).1.up<;>cases decide (b<0)<;>cases decide (b<(aQ s id).1.beat)<;>cases decide (w64 (b-(aQ s id).1.beat)>1)<;>rfl
theorem zGR{s:Se}(id:Int)(h:dV s):(qPL s id).G (wU s id,()):=by
 unfold qPL wU
 refine aF ?_
 simp only[aN,aO.2 h,dN,fC,dE,cond_true]
 cases (aQ s id).2<;>rfl
theorem zGS{s:Se}(id:Int)(h:dV s):(qPM s id).G (sH s id,()):=by
 unfold qPM sH
 refine aF ?_
 simp only[aN,aO.2 h,dN,fC,dE,cond_true]
 cases (aQ s id).2<;>cases (aQ s id).1.up<;>rfl
def qCT:TB:=con [.rcd 47] [.dat 95] (fun _a=>true) (fun a=>(shut wT a.1,())) rfl
theorem qG9:aM 142 qCT :=
 row_of lS (L:=noL) (J:=noL) (by kernel_rfl) rfl rfl fun a h=>Eq.mpr (qZZ a.1 _) (by simp only[aN];exact zAb _)
def qFn:TB:=con [.int .i64] [.bool] (fun _a=>true) (fun a=>(shut vT a.1,())) rfl
theorem qKg:aM 139 qFn :=
 row_of lS (L:=noL) (J:=noL) (by kernel_rfl) rfl rfl fun a h=>Eq.mpr (zDz a.1 _) (by simp only[aN];exact zD0 _)
def qCU:TB:=con [.rcd 95,.rcd 57] [.int .i64] (fun _a=>true) (fun a=>(shut qAA a.1 a.2.1,())) rfl
theorem qGA:aM 386 qCU :=
 row_of lS (L:=noL) (J:=noL) (by kernel_rfl) rfl rfl fun a h=>Eq.mpr (zAa a.1 a.2.1 _) (by simp only[aN];exact zAc _ _)
def qI1:TB:=con [.rcd 95,.rcd 57] [.bool] (fun _a=>true) (fun a=>(shut qBf a.1 a.2.1,())) rfl
theorem qPP:aM 327 qI1 :=
 row_of lS (L:=noL) (J:=noL) (by kernel_rfl) rfl rfl fun a h=>Eq.mpr (zGO a.1 a.2.1 _) (by simp only[aN];exact zGP _ _)
def qI2:TB:=con [.rcd 39,.int .i64,.int .i64] [.rcd 39,.int .i64] (fun a=>bC a.1) (fun a=>((shut dA a.1 a.2.1 a.2.2.1).1,(shut dA a.1 a.2.1 a.2.2.1).2,())) rfl
theorem qPQ:aM 136 qI2 :=
 row_of lS (L:=noL) (J:=qXD) (by kernel_rfl) rfl rfl fun a h=>Eq.mpr (zGK a.1 a.2.1 a.2.2.1 _) (by simp only[aN];exact zGQ _ _ (aO.1 h))
def qI3:TB:=con [.rcd 39,.int .i64] [.rcd 39] (fun a=>bC a.1) (fun a=>(shut wU a.1 a.2.1,())) rfl
theorem qPR:aM 151 qI3 :=
 row_of lS (L:=noL) (J:=noL) (by kernel_rfl) rfl rfl fun a h=>Eq.mpr (zGL a.1 a.2.1 _) (by simp only[aN];exact zGR _ (aO.1 h))
def qI4:TB:=con [.rcd 39,.int .i64] [.rcd 27] (fun a=>bC a.1) (fun a=>(shut sH a.1 a.2.1,())) rfl
theorem qPS:aM 330 qI4 :=
 row_of lS (L:=noL) (J:=noL) (by kernel_rfl) rfl rfl fun a h=>Eq.mpr (zGM a.1 a.2.1 _) (by simp only[aN];exact zGS _ (aO.1 h))
structure ApN(n:Nat)(a:Ap):Prop where
 asks:a.asks.length≤n
 grants:a.grants.length≤n
 kills:a.kills.length≤n
 told:a.told.length≤n
 lost:a.lost.length≤n
 queue:a.queue.length≤n
structure SeN(n:Nat)(s:Se):Prop where
 nodes:s.nodes.length≤n
 apps:s.apps.length≤n
 conts:s.conts.length≤n
 slots:s.slots.length≤n
 plans:s.plans.length≤n
 labels:s.conf.labels.length≤n
 queues:s.conf.queues.length≤n
 app:∀a∈s.apps,ApN n a
 qu:∀q∈s.conf.queues,q.caps.length≤n∧q.path.length≤n
 lab:∀l∈s.conf.labels,l.length≤n
def apN(n:Nat)(a:Ap):Bool:=Nat.ble a.asks.length n&&Nat.ble a.grants.length n&&Nat.ble a.kills.length n&&Nat.ble a.told.length n&&Nat.ble a.lost.length n&&Nat.ble a.queue.length n
def seN(n:Nat)(s:Se):Bool:=Nat.ble s.nodes.length n&&Nat.ble s.apps.length n&&Nat.ble s.conts.length n&&Nat.ble s.slots.length n&&Nat.ble s.plans.length n&&Nat.ble s.conf.labels.length n&&Nat.ble s.conf.queues.length n&&s.apps.all (apN n)&&s.conf.queues.all (fun q=>Nat.ble q.caps.length n&&Nat.ble q.path.length n)&&s.conf.labels.all fun l=>Nat.ble l.length n
theorem zGT{n:Nat}{a:Ap}:apN n a=true↔ApN n a:=by
 simp only[apN,Bool.and_eq_true,qGw]
 exact⟨fun⟨⟨⟨⟨⟨h1,h2⟩,h3⟩,h4⟩,h5⟩,h6⟩=>⟨h1,h2,h3,h4,h5,h6⟩,fun⟨h1,h2,h3,h4,h5,h6⟩=>⟨⟨⟨⟨⟨h1,h2⟩,h3⟩,h4⟩,h5⟩,h6⟩⟩
theorem uD{n:Nat}{s:Se}:seN n s=true↔SeN n s:=by
 simp only[seN,Bool.and_eq_true,qGw,List.all_eq_true,zGT]
 exact⟨fun⟨⟨⟨⟨⟨⟨⟨⟨⟨h1,h2⟩,h3⟩,h4⟩,h5⟩,h6⟩,h7⟩,h8⟩,h9⟩,h10⟩=>⟨h1,h2,h3,h4,h5,h6,h7,h8,h9,h10⟩,fun⟨h1,h2,h3,h4,h5,h6,h7,h8,h9,h10⟩=>⟨⟨⟨⟨⟨⟨⟨⟨⟨h1,h2⟩,h3⟩,h4⟩,h5⟩,h6⟩,h7⟩,h8⟩,h9⟩,h10⟩⟩
variable {n m:Nat} {s:Se}
theorem ApN.le{a:Ap}(h:ApN n a)(hm:n≤m):ApN m a:=⟨Nat.le_trans h.1 hm,Nat.le_trans h.2 hm,Nat.le_trans h.3 hm,Nat.le_trans h.4 hm,Nat.le_trans h.5 hm,Nat.le_trans h.6 hm⟩
theorem SeN.le(h:SeN n s)(hm:n≤m):SeN m s:=⟨Nat.le_trans h.1 hm,Nat.le_trans h.2 hm,Nat.le_trans h.3 hm,Nat.le_trans h.4 hm,Nat.le_trans h.5 hm,Nat.le_trans h.6 hm,Nat.le_trans h.7 hm,fun a ha=>(h.8 a ha).le hm,fun q hq=>⟨Nat.le_trans (h.9 q hq).1 hm,Nat.le_trans (h.9 q hq).2 hm⟩,fun l hl=>Nat.le_trans (h.10 l hl) hm⟩
theorem ApN.ok{a:Ap}(h:ApN n a)(hn:n≤1000000000):zCT a:=let h:=h.le hn;⟨h.1,h.2,h.3,h.4,h.5,h.6⟩
theorem SeN.ok(h:SeN n s)(hn:n≤1000000000):dV s:=let h:=h.le hn;⟨h.1,h.2,h.3,h.4,h.5,h.6,h.7,fun a ha=>(h.8 a ha).ok (Nat.le_refl _),h.9,h.10⟩
theorem zAd{α:Type}{key:α→Int}{x a:α}:∀{l:List α},a∈qBB key x l→a∈l
 | [],h=>h
 | b::r,h=>by
  simp only[qBB] at h
  cases hb:key b==key x<;>rw[hb] at h<;>simp_all
theorem zAe{α:Type}(key:α→Int)(x:α):∀l:List α,(qBB key x l).length≤l.length
 | []=>Nat.le_refl _
 | b::r=>by
  simp only[qBB]
  cases key b==key x<;>simp
theorem qSq{α:Type}(key:α→Int)(x:α)(l:List α):(qA6 key x l).length≤l.length+1:=by
 have:= zAe key x (l.drop (l.takeWhile fun a=>decide (key a<key x)).length)
 simp only[qA6,List.length_append,List.length_take,List.length_cons,List.length_nil,List.length_drop] at this ⊢
 omega
theorem qKh{α:Type}{key:α→Int}{x a:α}{l:List α}(h:a∈qA6 key x l):a=x∨a∈l:=by
 simp only[qA6,List.mem_append,List.mem_singleton] at h
 rcases h with(h | h) | h
 ·exact .inr (List.mem_of_mem_take h)
 ·exact .inl h
 ·exact .inr (List.mem_of_mem_drop (zAd h))
theorem SeN.dQ(h:SeN n s){a:Ap}(ha:ApN (n+1) a):SeN (n+1) (dQ s a):=by
 have k:=h.le (Nat.le_succ n)
 refine⟨k.1,Nat.le_trans (qSq _ _ _) (Nat.succ_le_succ h.2),k.3,k.4,k.5,k.6,k.7,fun b hb=>?_,k.9,k.10⟩
 rcases qKh hb with e | e
 ·exact e▸ha
 ·exact k.8 b e
theorem SeN.wJ(h:SeN n s)(a:Nd):SeN (n+1) (wJ s a) :=
 let k:=h.le (Nat.le_succ n)
 ⟨Nat.le_trans (qSq _ _ _) (Nat.succ_le_succ h.1),k.2,k.3,k.4,k.5,k.6,k.7,k.8,k.9,k.10⟩
theorem SeN.nD(h:SeN n s)(id:Int):SeN n (nD s id):=⟨h.1,h.2,Nat.le_trans (List.length_filter_le _ _) h.3,h.4,h.5,h.6,h.7,h.8,h.9,h.10⟩
theorem SeN.bQ(h:SeN n s)(id:Int):SeN n (bQ s id):=⟨h.1,h.2,h.3,Nat.le_trans (List.length_filter_le _ _) h.4,h.5,h.6,h.7,h.8,h.9,h.10⟩
theorem SeN.nE(h:SeN n s)(id:Int):SeN n (nE s id).1:=⟨h.1,h.2,Nat.le_trans (List.length_filter_le _ _) h.3,Nat.le_trans (List.length_filter_le _ _) h.4,h.5,h.6,h.7,h.8,h.9,h.10⟩
theorem qNk{α:Type}{d:α}{p:α→Bool}{l:List α}:(findD d p l).1=d∨(findD d p l).1∈l:=by
 unfold findD
 cases hf:l.find? p with
 | none=>exact .inl rfl
 | some a=>exact .inr (List.mem_of_find?_eq_some hf)
theorem SeN.aB(h:SeN n s)(id:Int):ApN n (aB s id).1:=by
 rcases qNk (d:=dAp) (p:=fun a:Ap=>a.id==id) (l:=s.apps) with e | e
 ·have e:(Go.Proofs.YtehpnjmgjmkjaaaGreatDoor.aB s id).1=dAp:=e
  rw[e]
  exact⟨Nat.zero_le _,Nat.zero_le _,Nat.zero_le _,Nat.zero_le _,Nat.zero_le _,Nat.zero_le _⟩
 ·exact h.8 _ e
def qDF(s:Se)(id state:Int):Se×List Int :=
 bif !(aB s id).2||!live (aB s id).1 then(s,[]) else nE (dQ s { (aB s id).1 with state:=state,asks:=[],grants:=[],kills:=[],told:=[],lost:=[] }) id
theorem zGU{s:Se}(id st:Int)(h:SeN 999999999 s):(qPN s id st).G ((qDF s id st).1,(qDF s id st).2,()):=by
 have h0:=aO.2 (h.ok (by decide))
 have hf:=h.aB id
 have h1:=aO.2 ((h.dQ (a:={ (aB s id).1 with state:=st,asks:=[],grants:=[],kills:=[],told:=[],lost:=[] }) ⟨Nat.zero_le _,Nat.zero_le _,Nat.zero_le _,Nat.zero_le _,Nat.zero_le _,Nat.le_succ_of_le hf.queue⟩).ok (by decide))
 unfold qPN qDF live
 refine aF ?_
 simp only[aN,h0,h1,dN,fC,dE,cond_true]
 cases (aB s id).2<;>cases (aB s id).1.state==1<;>cases (aB s id).1.state==2<;>rfl
def qI5:TB:=con [.rcd 39,.int .i64,.int .i64] [.rcd 39,.dat 3] (fun a=>seN 999999999 a.1) (fun a=>((shut qDF a.1 a.2.1 a.2.2.1).1,(shut qDF a.1 a.2.1 a.2.2.1).2,())) rfl
theorem qPT:aM 148 qI5 :=
 row_of lS (L:=noL) (J:=noL) (by kernel_rfl) rfl rfl fun a h=>Eq.mpr (zGN a.1 a.2.1 a.2.2.1 _) (by simp only[aN];exact zGU _ _ (uD.1 h))
end Go.Proofs.YtehpnjmgjmkjaaaGreatDoor
