/- Part of the proof: texts Ri Rj Rk Rl. No conditions. -/
import Derived.Test.YtlmkakccmpncjaaGreatDoorRc
set_option linter.all false
noncomputable section
namespace Go.Proofs.YtlmkakccmpncjaaGreatDoor
open Sum
open Go Go.W Go.Proofs
open Go.W.DT (ret need br bad loop join)
set_option maxRecDepth 100000
def qXT:=ljT [(2,fun st=>[si 6])]
def qPo(c:Cf)(path:B):DT (Qu×Bool×Unit) :=
 let +zeta f:=0;let +zeta e:=(↑c.queues.length:Int);loop (0,()) fun(s:Int×Unit) =>let +zeta a:=c.queues.getD (Int.toNat s.1) dQu;let +zeta d:=f+a.caps.length;let +zeta b:=(f+d).ble ([]++a.caps).length&&true&&true;br (decide (s.1<e)) (need (ixB s.1 e) (br (a.path==path) (need (ixB s.1 e) (need (aT d 16&&true) (need b (need b (need b (ret (inr ({a with caps:=@aO Cp f (f+d) ([]++a.caps)},true,())))))))) (ret (inl (w64 (s.1+1),()))))) (ret (inr (dQu,false,())))

theorem zJg(c:Cf)(path:B)(r:(Qu×Bool×Unit)):(tree hd2 qXT noL 205 [.rcd 30,.str] [.rcd 79,.bool] (c,path,())).G r=(qPo c path).G r:=by kernel_rfl
def qXU:=ljT [(3,fun st=>[aS st 5 9 false,si 6])]
def qXV:=ljT [(4,fun st=>[aS st 5 9 false])]
def qPp(c:Cf)(path:B):DT (List (B)×Unit) :=
 let +zeta e:=(↑c.queues.length:Int);loop ([],0,()) fun(s:List (B)×Int×Unit) =>let +zeta b:=c.queues.getD (Int.toNat s.2.1) dQu;let +zeta a:=s.1.length;let +zeta f:=0+a;let +zeta d:=@bF (B) 0 a s.1++[b.path];br (decide (s.2.1<e)) ((br (!path==[]) (need (ixB s.2.1 e) (need (sm (List.length b.path)) (br (shut eO b.path==path) (need (ixB s.2.1 e) (need (f.beq a) (need (aT (a+1) 16&&f.ble a) (need ((a+1).beq d.length) (ret (inl (d,()))))))) (need (a.beq a) (ret (inl (s.1,()))))))) (need (a.beq a) (ret (inl (s.1,()))))).join fun(p:List (B)×Unit)=>need (p.1.length.beq p.1.length) (ret (inl (p.1,w64 (s.2.1+1),())))) (need (f.ble a) (ret (inr (@aO (B) 0 f s.1,()))))

theorem zJh(c:Cf)(path:B)(r:(List (List UInt8)×Unit)):(tree hd2 qXU qXV 51 [.rcd 30,.str] [.dat 9] (c,path,())).G r=(qPp c path).G r:=by kernel_rfl
def zLx:=ljT [(2,fun st=>[aS st 3 9 false,.slot 0 (.str)])]
def zLy:=ljT [(4,fun st=>[aS st 3 9 false])]
def zEL(path:B):DT (List (B)×Unit) :=
 loop ([],path,()) fun(s:List (B)×B×Unit) =>let +zeta a:=s.1.length;let +zeta c:=0+a;let +zeta b:=@bF (B) 0 a s.1++[s.2.1];br (!s.2.1==[]) ((need (c.beq a) (need (aT (a+1) 16&&c.ble a) (need ((a+1).beq b.length) (ret (inl (b,())))))).join fun(p:List (B)×Unit)=>need (sm s.2.1.length) (need (p.1.length.beq p.1.length) (ret (inl (p.1,shut eO s.2.1,()))))) (need (c.ble a) (ret (inr (@aO (B) 0 c s.1,()))))

theorem zOQ(path:B)(r:(List (List UInt8)×Unit)):(tree hd2 zLx zLy 376 [.str] [.dat 9] (path,())).G r=(zEL path).G r:=by kernel_rfl
def qBU(s:Se)(n:Nd):DT (Se×Int×Unit) :=
 let +zeta f:=bN s;let +zeta e:=decide ((↑s.nodes.length:Int)≥12);let +zeta d:=shut aU s n.id;let +zeta c:=1;let +zeta b:=0;let +zeta a:=shut qAN s {n with seen:=s.now,beat:=b,up:=true};br (decide (n.id<b)) (ret (s,c,())) (br (decide (n.id>999)) (ret (s,c,())) (br (decide (n.label<b)) (ret (s,c,())) (br (decide (n.label≥(↑s.conf.labels.length:Int))) (ret (s,c,())) (br (decide (n.rack<b)) (ret (s,c,())) (br (decide (n.rack>99)) (ret (s,c,())) (br (decide (n.cap.mem≥b)) (br (!decide (n.cap.mem≤1073741824)) (ret (s,c,())) (br (decide (n.cap.cores≥b)) (br (!decide (n.cap.cores≤1073741824)) (ret (s,c,())) (need f (br d.2 (br d.1.up (ret (s,7,())) (br (!d.2) (br e (ret (s,4,())) (need f (ret (a,b,())))) (need f (ret (a,b,()))))) (br (!d.2) (br e (ret (s,4,())) (need f (ret (a,b,())))) (need f (ret (a,b,()))))))) (ret (s,c,())))) (ret (s,c,()))))))))

theorem qRy(s:Se)(n:Nd)(r:(Se×Int×Unit)):(tree hd2 noL noL 40 [.rcd 37,.rcd 53] [.rcd 37,.int .i64] (s,n,())).G r=(qBU s n).G r:=by kernel_rfl
def qXW:=ljT [(12,fun st=>bK st 6 [.rcd 37])]
def qPq(s:Se)(id:Int)(beat:Int):DT (Se×Int×Unit) :=
 let +zeta a:=shut aU s id;need (bN s) ((br (!a.2) (ret (inr (s,2,()))) (br (!a.1.up) (ret (inr (s,18,()))) (br (decide (beat<0)) (ret (inr (s,15,()))) (br (decide (beat<a.1.beat)) (ret (inr (s,15,()))) (br (decide (w64 (beat-a.1.beat)>1)) (ret (inr (s,1,()))) (ret (inl ((dSe,()),())))))))).join fun(p:(Se×Unit)×Unit)=>need (bN s) (ret (shut qAN s (Nd.mk a.1.id a.1.label a.1.rack a.1.cap s.now beat a.1.up),0,())))

theorem zJi(s:Se)(id:Int)(beat:Int)(r:(Se×Int×Unit)):(tree hd2 noL qXW 116 [.rcd 37,.int .i64,.int .i64] [.rcd 37,.int .i64] (s,id,beat,())).G r=(qPq s id beat).G r:=by kernel_rfl
def qPr(s:Se)(id:Int):DT (Se×Unit) :=
 let +zeta a:=shut aU s id;need (bN s) (br (!a.2) (ret (s,())) (need (bN s) (ret (shut qAN s (Nd.mk a.1.id a.1.label a.1.rack a.1.cap a.1.seen a.1.beat false),()))))

theorem zJj(s:Se)(id:Int)(r:(Se×Unit)):(tree hd2 noL noL 132 [.rcd 37,.int .i64] [.rcd 37] (s,id,())).G r=(qPr s id).G r:=by kernel_rfl
def qPs(s:Se)(id:Int):DT (Vec×Unit) :=
 let +zeta d:=0;let +zeta b:=shut qKc s id;let +zeta a:=shut aU s id;let +zeta c:=a.1.cap.cores-b.cores;need (bN s) (br (!a.2) (ret (gQ,())) (br (!a.1.up) (ret (gQ,())) (need (bN s) (ret (Vec.mk (if d>w64 (a.1.cap.mem-b.mem) then d else w64 (a.1.cap.mem-b.mem)) (if d>w64 c then d else w64 c),())))))

theorem zJk(s:Se)(id:Int)(r:(Vec×Unit)):(tree hd2 noL noL 315 [.rcd 37,.int .i64] [.rcd 40] (s,id,())).G r=(qPs s id).G r:=by kernel_rfl
def qKr(x:Ak)(labels:Int):DT (Int×Unit) :=
 let +zeta d:=4;let +zeta c:=decide (x.count>50);let +zeta b:=0;let +zeta e:=decide (x.count<b);let +zeta a:=1;br (decide (x.prio<b)) (ret (a,())) (br (decide (x.prio>9)) (ret (a,())) (br (decide (x.label<b)) (ret (a,())) (br (decide (x.label≥labels)) (ret (a,())) (br (decide (x.size.mem≥a)) (br (!decide (x.size.mem≤1073741824)) (ret (a,())) (br (decide (x.size.cores≥a)) (br (!decide (x.size.cores≤1073741824)) (ret (a,())) (br (decide (x.node<(-1:Int))) (ret (a,())) (br (decide (x.node>999)) (ret (a,())) (br (decide (x.rack<(-1:Int))) (ret (a,())) (br (decide (x.rack>99)) (ret (a,())) (br (decide (x.node≥b)) (br (decide (x.rack<b)) (ret (a,())) (br e (ret (d,())) (br c (ret (d,())) (ret (b,()))))) (br e (ret (d,())) (br c (ret (d,())) (ret (b,())))))))))) (ret (a,())))) (ret (a,()))))))

theorem zEM(x:Ak)(labels:Int)(r:(Int×Unit)):(tree hd2 noL noL 208 [.rcd 131,.int .i64] [.int .i64] (x,labels,())).G r=(qKr x labels).G r:=by kernel_rfl
def qPt(s:Se)(id:Int)(state:Int):DT (Se×List Int×Unit) :=
 let +zeta b:=shut aB s id;let +zeta a:=shut dW s (Ap.mk b.1.id state b.1.queue b.1.user b.1.prio b.1.master [] b.1.seen b.1.beat [] [] [] []);let +zeta c:=shut rD a id;need (bN s) (br (!b.2) (ret (s,[],())) (br (b.1.state==1) (need (bN s) (need (bN a) (ret (c.1,c.2,())))) (br (!b.1.state==2) (ret (s,[],())) (need (bN s) (need (bN a) (ret (c.1,c.2,())))))))

theorem zJl(s:Se)(id:Int)(state:Int)(r:(Se×List Int×Unit)):(tree hd2 noL noL 129 [.rcd 37,.int .i64,.int .i64] [.rcd 37,.dat 3] (s,id,state,())).G r=(qPt s id state).G r:=by kernel_rfl
def qRz:=ljT [(3,fun st=>[aS st 6 55 false,si 7])]
def qR0:=ljT [(4,fun st=>[aS st 6 55 false]),(7,fun st=>[aS st 6 55 false])]
def qKs(s:Se)(id:Int):DT (Se×Int×Unit) :=
 let +zeta e:=0;let +zeta d:=(↑s.plans.length:Int);(loop ([],0,()) fun(p:List Pn×Int×Unit) =>let +zeta g:=p.2.1;let +zeta b:=p.1.length;let +zeta c:=@bF Pn e b p.1++[s.plans.getD (Int.toNat g) dPn];br (decide (g<d)) ((need (ixB g d) (br ((s.plans.getD (Int.toNat g) dPn).id != id) (need (ixB g d) (need ((e+b).beq b) (need (aT (b+1) 48&&(e+b).ble b) (need ((b+1).beq c.length) (ret (inl (c,()))))))) (need (b.beq b) (ret (inl (p.1,())))))).join fun(q:List Pn×Unit)=>need (q.1.length.beq q.1.length) (ret (inl (q.1,w64 (g+1),())))) (need (b.beq b) (ret (inr (inl (p.1,())))))).join fun(p:List Pn×Unit) =>let +zeta f:=p.1.length;let +zeta a:=(e+f).ble f&&true&&true;br ((↑f:Int)==d) (ret (s,2,())) (need a (need a (need a (ret ({s with plans:=@aO Pn e (e+f) p.1},0,())))))

theorem zEN(s:Se)(id:Int)(r:(Se×Int×Unit)):(tree hd2 qRz qR0 47 [.rcd 37,.int .i64] [.rcd 37,.int .i64] (s,id,())).G r=(qKs s id).G r:=by kernel_rfl
def qR1:=ljT [(3,fun st=>[aS st 5 3 false,si 6])]
def qR2:=ljT [(4,fun st=>[aS st 5 3 false])]
def qKt(was:Se)(now:Se):DT (List Int×Unit) :=
 let +zeta d:=0;let +zeta c:=(↑was.conts.length:Int);loop ([],0,()) fun(s:List Int×Int×Unit) =>let +zeta b:=was.conts.getD (Int.toNat s.2.1) dCt;let +zeta a:=s.1.length;let +zeta e:=@bF Int d a s.1++[b.id];br (decide (s.2.1<c)) ((need (ixB s.2.1 c) (need (bN now) (br (!(shut aL now b.id).2) (need (ixB s.2.1 c) (need ((d+a).beq a) (need (aT (a+1) 8&&(d+a).ble a) (need ((a+1).beq e.length) (ret (inl (e,()))))))) (need (a.beq a) (ret (inl (s.1,()))))))).join fun(p:List Int×Unit)=>need (p.1.length.beq p.1.length) (ret (inl (p.1,w64 (s.2.1+1),())))) (need ((d+a).ble a) (ret (inr (@aO Int d (d+a) s.1,()))))

theorem zEO(was:Se)(now:Se)(r:(List Int×Unit)):(tree hd2 qR1 qR2 136 [.rcd 37,.rcd 37] [.dat 3] (was,now,())).G r=(qKt was now).G r:=by kernel_rfl
def qMS:=ljT [(3,fun st=>[aS st 5 46 false,si 6])]
def qMT:=ljT [(4,fun st=>[aS st 5 46 false])]
def qHn(s:Se)(ids:List Int):DT (List Ct×Unit) :=
 let +zeta c:=0;loop ([],0,()) fun(p:List Ct×Int×Unit) =>let +zeta b:=shut aL s (ids.getD (Int.toNat p.2.1) 0);let +zeta a:=p.1.length;let +zeta d:=@bF Ct c a p.1++[b.1];br (decide (p.2.1<(↑ids.length:Int))) ((need (ixB p.2.1 (↑ids.length:Int)) (need (bN s) (br b.2 (need ((c+a).beq a) (need (aT (a+1) 72&&(c+a).ble a) (need ((a+1).beq d.length) (ret (inl (d,())))))) (need (a.beq a) (ret (inl (p.1,()))))))).join fun(q:List Ct×Unit)=>need (q.1.length.beq q.1.length) (ret (inl (q.1,w64 (p.2.1+1),())))) (need ((c+a).ble a) (ret (inr (@aO Ct c (c+a) p.1,()))))

theorem zAE(s:Se)(ids:List Int)(r:(List Ct×Unit)):(tree hd2 qMS qMT 124 [.rcd 37,.dat 3] [.dat 46] (s,ids,())).G r=(qHn s ids).G r:=by kernel_rfl
def qMU(a:Ap):DT (List Ak×Unit) :=
 ret ([Ak.mk 0 0 a.master 1 (-1:Int) (-1:Int) 0],())

theorem zAF(a:Ap)(r:(List Ak×Unit)):(tree hd2 noL noL 123 [.rcd 43] [.dat 131] (a,())).G r=(qMU a).G r:=by kernel_rfl
def qR3:=ljT [(2,fun st=>[si 5]++bK st 2 [.rcd 37])]
def qR4:=ljT [(3,fun st=>bK st 2 [.rcd 37])]
def qKu(s:Se)(ids:List Int):DT (Se×Unit) :=
 let +zeta l:=0;let +zeta j:=0;loop (l,(s,()),()) fun(p:Int×(Se×Unit)×Unit) =>let +zeta f:=p.2.1.1;let +zeta b:=shut aL f (ids.getD (Int.toNat p.1) l);let +zeta i:=shut pK f b.1.id;let +zeta a:=shut aB f b.1.app;let +zeta k:=[]++a.1.kills;let +zeta h:=shut fB a.1.grants b.1.id;let +zeta g:=j+a.1.kills.length+1;let +zeta e:=j+a.1.kills.length;let +zeta m:=@bF Int j e k++[b.1.id];let +zeta d:=(j+g).ble m.length&&true&&true;let +zeta c:=shut dW f (Ap.mk a.1.id 1 a.1.queue a.1.user a.1.prio a.1.master [Ak.mk l l a.1.master 1 (-1:Int) (-1:Int) l] f.now l [] [] [] []);br (decide (p.1<(↑ids.length:Int))) ((need (ixB p.1 (↑ids.length:Int)) (need (bN f) (br (!b.2) (ret (inl ((f,()),()))) (need (bN f) (br b.1.master (need (bN f) (need (bN c) (ret (inl (((shut rD c b.1.app).1,()),()))))) (need (bN f) (need (sm a.1.grants.length) (br (!h.2) (need (aT e 8&&true) (need ((j+e).beq k.length) (need (aT g 8&&(j+e).ble k.length) (need d (need d (need (bN i) (ret (inl ((shut dW i (Ap.mk a.1.id a.1.state a.1.queue a.1.user a.1.prio a.1.master a.1.asks a.1.seen a.1.beat h.1 (@aO Int j (j+g) m) a.1.told a.1.lost),()),()))))))))) (need (bN i) (ret (inl ((shut dW i (Ap.mk a.1.id a.1.state a.1.queue a.1.user a.1.prio a.1.master a.1.asks a.1.seen a.1.beat h.1 a.1.kills a.1.told a.1.lost),()),())))))))))))).join fun(q:(Se×Unit)×Unit)=>ret (inl (w64 (p.1+1),(q.1.1,()),()))) (ret (inr (f,())))

theorem zEP(s:Se)(ids:List Int)(r:(Se×Unit)):(tree hd2 qR3 qR4 117 [.rcd 37,.dat 3] [.rcd 37] (s,ids,())).G r=(qKu s ids).G r:=by kernel_rfl
def qHo(a:Ak)(n:Nd):DT (Int×Unit) :=
 let +zeta b:=a.rack==n.rack;br (!n.up) (ret (4,())) (br (n.label != a.label) (ret (4,())) (br (a.rack==(-1:Int)) (ret (1,())) (br (a.node==n.id) (ret (1,())) (br (a.node==(-1:Int)) (br b (ret (1,())) (br b (ret (2,())) (ret (3,())))) (br b (ret (2,())) (ret (3,())))))))

theorem zAG(a:Ak)(n:Nd)(r:(Int×Unit)):(tree hd2 noL noL 371 [.rcd 131,.rcd 53] [.int .i64] (a,n,())).G r=(qHo a n).G r:=by kernel_rfl
def qPu(a:Ak)(n:Nd):DT (Bool×Unit) :=
 let +zeta d:=decide (a.missed≥4);let +zeta c:=decide (a.missed≥2);let +zeta b:=a.rack==n.rack;br (!n.up) (ret (false,())) (br (n.label != a.label) (ret (false,())) (br (a.rack==(-1:Int)) (ret (true,())) (br (a.node==n.id) (ret (true,())) (br (a.node==(-1:Int)) (br b (ret (true,())) (br b (ret (c,())) (ret (d,())))) (br b (ret (c,())) (ret (d,())))))))

theorem zJm(a:Ak)(n:Nd)(r:(Bool×Unit)):(tree hd2 noL noL 312 [.rcd 131,.rcd 53] [.bool] (a,n,())).G r=(qPu a n).G r:=by kernel_rfl
def qKv(n:Int):DT (Bool×Unit) :=
 br (decide (n≥1)) (ret (decide (n≤1073741824),())) (ret (false,()))

theorem zEQ(n:Int)(r:(Bool×Unit)):(tree hd2 noL noL 119 [.int .i64] [.bool] (n,())).G r=(qKv n).G r:=by kernel_rfl
end Go.Proofs.YtlmkakccmpncjaaGreatDoor
namespace Go.Proofs.YtlmkakccmpncjaaGreatDoor
open Sum
open Go Go.W Go.Proofs
set_option maxRecDepth 100000
def xQ(a:Ap):List Ak:=[⟨0,0,a.master,1,-1,-1,0⟩]
theorem zAH(a:Ap):(qMU a).G (xQ a,()):=rfl
def wK(n:Int):Bool:=decide (n≥1)&&decide (n≤1073741824)
def xR(a:Ak)(n:Nd):Int :=
 bif !n.up||n.label != a.label then 4 else bif a.rack == -1||a.node==n.id||a.node == -1&&a.rack==n.rack then 1 else bif a.rack==n.rack then 2 else 3
def zY(a:Ak)(n:Nd):Bool :=
 bif !n.up||n.label != a.label then false else bif a.rack == -1||a.node==n.id||a.node == -1&&a.rack==n.rack then true else bif a.rack==n.rack then decide (a.missed≥2) else decide (a.missed≥4)
def jP(s:Se)(id b:Int):Se×Int :=
 bif !(aU s id).2 then(s,2) else bif !(aU s id).1.up then(s,18) else bif decide (b<0)||decide (b<(aU s id).1.beat) then(s,15)
 else bif decide (w64 (b-(aU s id).1.beat)>1) then(s,1) else(qAN s { (aU s id).1 with seen:=s.now,beat:=b },0)
def zZ(s:Se)(id:Int):Se:=bif !(aU s id).2 then s else qAN s { (aU s id).1 with up:=false }
def wL(s:Se)(id:Int):Vec :=
 bif !(aU s id).2||!(aU s id).1.up then gQ else⟨(if 0>w64 ((aU s id).1.cap.mem-(qKc s id).mem) then 0 else w64 ((aU s id).1.cap.mem-(qKc s id).mem)),(if 0>w64 ((aU s id).1.cap.cores-(qKc s id).cores) then 0 else w64 ((aU s id).1.cap.cores-(qKc s id).cores))⟩
theorem zER(n:Int):(qKv n).G (wK n,()):=by
 unfold qKv wK
 refine aF ?_
 cases decide (n≥1)<;>rfl
theorem zAI(a:Ak)(n:Nd):(qHo a n).G (xR a n,()):=by
 unfold qHo xR
 refine aF ?_
 cases n.up<;>cases n.label != a.label<;>cases a.rack == -1<;>cases a.node==n.id<;>cases a.node == -1<;>cases a.rack==n.rack<;>rfl
theorem zJn(a:Ak)(n:Nd):(qPu a n).G (zY a n,()):=by
 unfold qPu zY
 refine aF ?_
 cases n.up<;>cases n.label != a.label<;>cases a.rack == -1<;>cases a.node==n.id<;>cases a.node == -1<;>cases a.rack==n.rack<;>rfl
theorem zJo{s:Se}(id b:Int)(h:dH s):(qPq s id b).G ((jP s id b).1,(jP s id b).2,()):=by
 unfold qPq jP
 refine aF ?_
 simp only[aK,aM.2 h,dD,eG,cB,jM,cond_true]
 cases (aU s id).2<;>cases (aU s id).1.up<;>cases decide (b<0)<;>cases decide (b<(aU s id).1.beat)<;>cases decide (w64 (b-(aU s id).1.beat)>1)<;>rfl
theorem zJp{s:Se}(id:Int)(h:dH s):(qPr s id).G (zZ s id,()):=by
 unfold qPr zZ
 refine aF ?_
 simp only[aK,aM.2 h,dD,eG,cB,jM,cond_true]
 cases (aU s id).2<;>rfl
theorem zJq{s:Se}(id:Int)(h:dH s):(qPs s id).G (wL s id,()):=by
 unfold qPs wL
 refine aF ?_
 simp only[aK,aM.2 h,dD,eG,cB,jM,cond_true]
 cases (aU s id).2<;>cases (aU s id).1.up<;>rfl
def qDi:TB:=con [.rcd 43] [.dat 131] (fun a=>true) (fun a=>(shut xQ a.1,())) rfl
theorem qHp:aJ 123 qDi :=
 row_of lI (L:=noL) (J:=noL) (by kernel_rfl) rfl rfl fun a h=>Eq.mpr (zAF a.1 _) (by simp only[aK];exact zAH _)
def qFA:TB:=con [.int .i64] [.bool] (fun a=>true) (fun a=>(shut wK a.1,())) rfl
theorem qKw:aJ 119 qFA :=
 row_of lI (L:=noL) (J:=noL) (by kernel_rfl) rfl rfl fun a h=>Eq.mpr (zEQ a.1 _) (by simp only[aK];exact zER _)
def qDj:TB:=con [.rcd 131,.rcd 53] [.int .i64] (fun a=>true) (fun a=>(shut xR a.1 a.2.1,())) rfl
theorem qHq:aJ 371 qDj :=
 row_of lI (L:=noL) (J:=noL) (by kernel_rfl) rfl rfl fun a h=>Eq.mpr (zAG a.1 a.2.1 _) (by simp only[aK];exact zAI _ _)
def qID:TB:=con [.rcd 131,.rcd 53] [.bool] (fun a=>true) (fun a=>(shut zY a.1 a.2.1,())) rfl
theorem qPv:aJ 312 qID :=
 row_of lI (L:=noL) (J:=noL) (by kernel_rfl) rfl rfl fun a h=>Eq.mpr (zJm a.1 a.2.1 _) (by simp only[aK];exact zJn _ _)
def qIE:TB:=con [.rcd 37,.int .i64,.int .i64] [.rcd 37,.int .i64] (fun a=>bN a.1) (fun a=>((shut jP a.1 a.2.1 a.2.2.1).1,(shut jP a.1 a.2.1 a.2.2.1).2,())) rfl
theorem qPw:aJ 116 qIE :=
 row_of lI (L:=noL) (J:=qXW) (by kernel_rfl) rfl rfl fun a h=>Eq.mpr (zJi a.1 a.2.1 a.2.2.1 _) (by simp only[aK];exact zJo _ _ (aM.1 h))
def qIF:TB:=con [.rcd 37,.int .i64] [.rcd 37] (fun a=>bN a.1) (fun a=>(shut zZ a.1 a.2.1,())) rfl
theorem qPx:aJ 132 qIF :=
 row_of lI (L:=noL) (J:=noL) (by kernel_rfl) rfl rfl fun a h=>Eq.mpr (zJj a.1 a.2.1 _) (by simp only[aK];exact zJp _ (aM.1 h))
def qIG:TB:=con [.rcd 37,.int .i64] [.rcd 40] (fun a=>bN a.1) (fun a=>(shut wL a.1 a.2.1,())) rfl
theorem qPy:aJ 315 qIG :=
 row_of lI (L:=noL) (J:=noL) (by kernel_rfl) rfl rfl fun a h=>Eq.mpr (zJk a.1 a.2.1 _) (by simp only[aK];exact zJq _ (aM.1 h))
structure ApN(n:Nat)(a:Ap):Prop where
 asks:a.asks.length≤n
 grants:a.grants.length≤n
 kills:a.kills.length≤n
 told:a.told.length≤n
 lost:a.lost.length≤n
 queue:a.queue.length≤n
structure SeN(n:Nat)(s:Se):Prop where
 nodes:s.nodes.length≤n
 apps:s.apps.length≤n
 conts:s.conts.length≤n
 slots:s.slots.length≤n
 plans:s.plans.length≤n
 labels:s.conf.labels.length≤n
 queues:s.conf.queues.length≤n
 app:∀a∈s.apps,ApN n a
 qu:∀q∈s.conf.queues,q.caps.length≤n∧q.path.length≤n
 lab:∀l∈s.conf.labels,l.length≤n
def apN(n:Nat)(a:Ap):Bool:=Nat.ble a.asks.length n&&Nat.ble a.grants.length n&&Nat.ble a.kills.length n&&Nat.ble a.told.length n&&Nat.ble a.lost.length n&&Nat.ble a.queue.length n
def seN(n:Nat)(s:Se):Bool:=Nat.ble s.nodes.length n&&Nat.ble s.apps.length n&&Nat.ble s.conts.length n&&Nat.ble s.slots.length n&&Nat.ble s.plans.length n&&Nat.ble s.conf.labels.length n&&Nat.ble s.conf.queues.length n&&s.apps.all (apN n)&&s.conf.queues.all (fun q=>Nat.ble q.caps.length n&&Nat.ble q.path.length n)&&s.conf.labels.all fun l=>Nat.ble l.length n
theorem zJr{n:Nat}{a:Ap}:apN n a=true↔ApN n a:=by
 simp only[apN,bn,qHb]
 exact⟨fun⟨⟨⟨⟨⟨h1,h2⟩,h3⟩,h4⟩,h5⟩,h6⟩=>⟨h1,h2,h3,h4,h5,h6⟩,fun⟨h1,h2,h3,h4,h5,h6⟩=>⟨⟨⟨⟨⟨h1,h2⟩,h3⟩,h4⟩,h5⟩,h6⟩⟩
theorem uW{n:Nat}{s:Se}:seN n s=true↔SeN n s:=by
 simp only[seN,bn,qHb,fw,zJr]
 exact⟨fun⟨⟨⟨⟨⟨⟨⟨⟨⟨h1,h2⟩,h3⟩,h4⟩,h5⟩,h6⟩,h7⟩,h8⟩,h9⟩,h10⟩=>⟨h1,h2,h3,h4,h5,h6,h7,h8,h9,h10⟩,fun⟨h1,h2,h3,h4,h5,h6,h7,h8,h9,h10⟩=>⟨⟨⟨⟨⟨⟨⟨⟨⟨h1,h2⟩,h3⟩,h4⟩,h5⟩,h6⟩,h7⟩,h8⟩,h9⟩,h10⟩⟩
variable {n m:Nat} {s:Se}
theorem ApN.le{a:Ap}(h:ApN n a)(hm:n≤m):ApN m a:=⟨bq h.1 hm,bq h.2 hm,bq h.3 hm,bq h.4 hm,bq h.5 hm,bq h.6 hm⟩
theorem SeN.le(h:SeN n s)(hm:n≤m):SeN m s:=⟨bq h.1 hm,bq h.2 hm,bq h.3 hm,bq h.4 hm,bq h.5 hm,bq h.6 hm,bq h.7 hm,fun a ha=>(h.8 a ha).le hm,fun q hq=>⟨bq (h.9 q hq).1 hm,bq (h.9 q hq).2 hm⟩,fun l hl=>bq (h.10 l hl) hm⟩
theorem ApN.ok{a:Ap}(h:ApN n a)(hn:n≤1000000000):qIv a:=let h:=h.le hn;⟨h.1,h.2,h.3,h.4,h.5,h.6⟩
theorem SeN.ok(h:SeN n s)(hn:n≤1000000000):dH s:=let h:=h.le hn;⟨h.1,h.2,h.3,h.4,h.5,h.6,h.7,fun a ha=>(h.8 a ha).ok (df _),h.9,h.10⟩
theorem zAJ{α:Type}{key:α→Int}{x a:α}:∀{l:List α},a∈qBQ key x l→a∈l
 | [],h=>h
 | b::r,h=>by
  simp only[qBQ] at h
  cases hb:key b==key x<;>rw[hb] at h<;>simp_all
theorem zAK{α:Type}(key:α→Int)(x:α):∀l:List α,(qBQ key x l).length≤l.length
 | []=>df _
 | b::r=>by
  simp only[qBQ]
  cases key b==key x<;>simp
theorem qR5{α:Type}(key:α→Int)(x:α)(l:List α):(qAM key x l).length≤l.length+1:=by
 have:= zAK key x (l.drop (l.takeWhile fun a=>decide (key a<key x)).length)
 simp only[qAM,dh,ed,dw,gq,il] at this ⊢
 omega
theorem qAa{α:Type}{key:α→Int}{x a:α}{l:List α}(h:a∈qAM key x l):a=x∨a∈l:=by
 simp only[qAM,dz,ib] at h
 rcases h with(h | h) | h
 ·exact .inr (rq h)
 ·exact .inl h
 ·exact .inr (ve (zAJ h))
theorem SeN.dW(h:SeN n s){a:Ap}(ha:ApN (n+1) a):SeN (n+1) (dW s a):=by
 have k:=h.le (jv n)
 refine⟨k.1,bq (qR5 _ _ _) (qg h.2),k.3,k.4,k.5,k.6,k.7,fun b hb=>?_,k.9,k.10⟩
 rcases qAa hb with e | e
 ·exact e▸ha
 ·exact k.8 b e
theorem SeN.qAN(h:SeN n s)(a:Nd):SeN (n+1) (qAN s a) :=
 let k:=h.le (jv n)
 ⟨bq (qR5 _ _ _) (qg h.1),k.2,k.3,k.4,k.5,k.6,k.7,k.8,k.9,k.10⟩
theorem SeN.pK(h:SeN n s)(id:Int):SeN n (pK s id):=⟨h.1,h.2,bq (gp _ _) h.3,h.4,h.5,h.6,h.7,h.8,h.9,h.10⟩
theorem SeN.dP(h:SeN n s)(id:Int):SeN n (dP s id):=⟨h.1,h.2,h.3,bq (gp _ _) h.4,h.5,h.6,h.7,h.8,h.9,h.10⟩
theorem SeN.rD(h:SeN n s)(id:Int):SeN n (rD s id).1:=⟨h.1,h.2,bq (gp _ _) h.3,bq (gp _ _) h.4,h.5,h.6,h.7,h.8,h.9,h.10⟩
theorem qMV{α:Type}{d:α}{p:α→Bool}{l:List α}:(findD d p l).1=d∨(findD d p l).1∈l:=by
 unfold findD
 cases hf:l.find? p with
 | none=>exact .inl rfl
 | some a=>exact .inr (ky hf)
theorem SeN.aB(h:SeN n s)(id:Int):ApN n (aB s id).1:=by
 rcases qMV (d:=dAp) (p:=fun a:Ap=>a.id==id) (l:=s.apps) with e | e
 ·have e:(Go.Proofs.YtlmkakccmpncjaaGreatDoor.aB s id).1=dAp:=e
  rw[e]
  exact⟨cz _,cz _,cz _,cz _,cz _,cz _⟩
 ·exact h.8 _ e
def qBV(s:Se)(id state:Int):Se×List Int :=
 bif !(aB s id).2||!live (aB s id).1 then(s,[]) else rD (dW s { (aB s id).1 with state:=state,asks:=[],grants:=[],kills:=[],told:=[],lost:=[] }) id
theorem zJs{s:Se}(id st:Int)(h:SeN 999999999 s):(qPt s id st).G ((qBV s id st).1,(qBV s id st).2,()):=by
 have h0:=aM.2 (h.ok (by decide))
 have hf:=h.aB id
 have h1:=aM.2 ((h.dW (a:={ (aB s id).1 with state:=st,asks:=[],grants:=[],kills:=[],told:=[],lost:=[] }) ⟨cz _,cz _,cz _,cz _,cz _,p8 hf.queue⟩).ok (by decide))
 unfold qPt qBV live
 refine aF ?_
 simp only[aK,h0,h1,dD,eG,cB,jM,cond_true]
 cases (aB s id).2<;>cases (aB s id).1.state==1<;>cases (aB s id).1.state==2<;>rfl
def qIH:TB:=con [.rcd 37,.int .i64,.int .i64] [.rcd 37,.dat 3] (fun a=>seN 999999999 a.1) (fun a=>((shut qBV a.1 a.2.1 a.2.2.1).1,(shut qBV a.1 a.2.1 a.2.2.1).2,())) rfl
theorem qPz:aJ 129 qIH :=
 row_of lI (L:=noL) (J:=noL) (by kernel_rfl) rfl rfl fun a h=>Eq.mpr (zJl a.1 a.2.1 a.2.2.1 _) (by simp only[aK];exact zJs _ _ (uW.1 h))
end Go.Proofs.YtlmkakccmpncjaaGreatDoor
