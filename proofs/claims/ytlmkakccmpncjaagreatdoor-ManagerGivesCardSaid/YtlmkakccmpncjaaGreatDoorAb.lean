/- Part of the proof: texts Ab1. No conditions. -/
import Derived.Test.YtlmkakccmpncjaaGreatDoorAa
set_option linter.all false
noncomputable section
namespace Go.Proofs.YtlmkakccmpncjaaGreatDoor
open Sum
open Go Go.W Go.Proofs
open Go.W.DT (ret need br bad loop join)
set_option maxRecDepth 100000
def qSF(v:Vec)(bp:Int):DT (Vec×Int×Unit) :=
 let +zeta a:=Vec.mk (shut qR8 v.mem bp) (shut qR8 v.cores bp);br (!shut qE4 v) (ret (gQ,1,())) (br (decide (bp<0)) (ret (gQ,1,())) (br (decide (bp>1000000)) (ret (gQ,1,())) (br (!shut qE4 a) (ret (gQ,11,())) (ret (a,0,())))))

theorem zFX{v:Vec}{bp:Int}{r:(Vec×Int×Unit)}(h:(qSF v bp).G r):qAb v bp=true∧qBX v bp=r:=bP (wX (v,bp,())) (by kernel_rfl) h
def qSG(x:Fr)(y:Fr):DT (Int×Unit) :=
 let +zeta g:=(-1:Int);let +zeta f:=1;let +zeta e:=0;(br (x.a==e) (ret (inl ((Fr.mk x.a f,()),()))) (ret (inl ((x,()),())))).join fun(s:(Fr×Unit)×Unit) =>let +zeta d:=s.1.1.p==e;(br (y.a==e) (ret (inl ((Fr.mk y.a f,()),()))) (ret (inl ((y,()),())))).join fun(q:(Fr×Unit)×Unit) =>let +zeta h:=q.1.1.p==e;let +zeta c:=shut qFF q.1.1.a s.1.1.p;let +zeta b:=shut qFF s.1.1.a q.1.1.p;let +zeta i:=b.1==c.1;br d (br d (br h (ret (e,())) (br d (ret (f,())) (ret (g,())))) (br d (ret (f,())) (ret (g,())))) (br h (br d (br h (ret (e,())) (br d (ret (f,())) (ret (g,())))) (br d (ret (f,())) (ret (g,())))) (br (decide (b.1<c.1)) (ret (g,())) (br i (br (decide (b.2<c.2)) (ret (g,())) (br i (br (b.2==c.2) (ret (e,())) (ret (f,()))) (ret (f,())))) (br i (br (b.2==c.2) (ret (e,())) (ret (f,()))) (ret (f,()))))))

theorem zFY{x:Fr}{y:Fr}{r:(Int×Unit)}(h:(qSG x y).G r):qAc x y=true∧qBY x y=r:=bP (wX (x,y,())) (by kernel_rfl) h
def qNz(leaf:B)(path:B):DT (Bool×Unit) :=
 let +zeta a:=(↑(shut up6 leaf).length:Int);need (sm (leaf.length)) (loop (0,()) fun(s:Int×Unit)=>br (decide (s.1<a)) (need (ixB s.1 a) (br ((shut up6 leaf).getD (Int.toNat s.1) []==path) (ret (inr (true,()))) (ret (inl (w64 (s.1+1),()))))) (ret (inr (false,()))))

theorem zB4{leaf:B}{path:B}{r:(Bool×Unit)}(h:(qNz leaf path).G r):wN leaf path=true∧qAd leaf path=r:=bP (wX (leaf,path,())) (by kernel_rfl) h
def qN0(s:Se)(n:Nd)(a:Ap)(x:Ak):DT (Se×Ct×Unit) :=
 let +zeta y:=1;let +zeta v:=[]++a.grants;let +zeta u:=0;let +zeta q:=s.conts;let +zeta o:=a.state==y;let +zeta h:=a.grants.length;let +zeta f:=(↑q.length:Int);let +zeta d:=0;let +zeta r:=d+h+1;let +zeta b:=w64 (s.epoch*2 ^ 20)+w64 (s.seq+y);let +zeta m:=@bF Int d (d+h) v++[w64 b];need (sm a.asks.length) ((br o (ret (inl (({a with state:=2,asks:=[],seen:=s.now,beat:=u},()),()))) (need (aT (d+h) 8&&true) (need ((d+(d+h)).beq v.length) (need (aT r 8&&(d+(d+h)).ble v.length) (need ((d+r).ble m.length&&true&&true) (ret (inl (({a with asks:=(shut qKo a.asks x.prio).1,grants:=@aO Int d (d+r) m},()),())))))))).join fun(p:(Ap×Unit)×Unit)=>(loop (u,()) fun(w:Int×Unit)=>br (decide (w.1<f)) (need (ixB w.1 f) (br (decide ((q.getD (Int.toNat w.1) dCt).id<w64 b)) (ret (inl (w64 (w.1+y),()))) (ret (inr (inl (w.1,())))))) (ret (inr (inl (w.1,()))))).join fun(w:Int×Unit) =>let +zeta i:=Int.toNat w.1;let +zeta z:=[] ++ @aO Ct d i q;let +zeta t:=d+List.length (@aO Ct d i q);(need (decide (u≤w.1)&&decide (w.1≤f)&&true&&true) (need (aT t 72&&true) (need (t.beq z.length) (ret (inl (z,())))))).join fun(s_3:List Ct×Unit) =>let +zeta k:=s_3.1.length;let +zeta g:=@bF Ct d k s_3.1++[Ct.mk (w64 b) a.id n.id x.size x.prio n.label o u];(need ((d+k).beq k) (need (aT (k+1) 72&&(d+k).ble k) (need ((k+1).beq g.length) (ret (inl (g,())))))).join fun(s_4:List Ct×Unit) =>let +zeta l:=s_4.1.length;let +zeta e:=@bF Ct d l s_4.1 ++ @aO Ct i f.toNat q;let +zeta c:=l+List.length (@aO Ct i f.toNat q);let +zeta j:={s with conts:=@aO Ct d (d+c) e,seq:=w64 (s.seq+y)};need (slB w.1 f f) (need ((d+l).beq l) (need (aT c 72&&(d+l).ble l) (need ((d+c).ble e.length&&true&&true) (need (bN j) (ret (shut dW j p.1.1,{x with id:=w64 b,app:=a.id,node:=n.id,label:=n.label,master:=o,notice:=u},())))))))

theorem zB5{s:Se}{n:Nd}{a:Ap}{x:Ak}{r:(Se×Ct×Unit)}(h:(qN0 s n a x).G r):rF s n a x=true∧qAe s n a x=r:=bP (wX (s,n,a,x,())) (by kernel_rfl) h
def qSH(s:Se)(id:Int)(t:Int):DT (Se×Unit) :=
 let +zeta f:=0;(need (aT (f+s.conts.length) 72&&true) (need ((f+s.conts.length).beq ([]++s.conts).length) (ret (inl ([]++s.conts,()))))).join fun(p:List Ct×Unit) =>let +zeta c:=f+p.1.length;loop (0,p.1,()) fun(q:Int×List Ct×Unit) =>let +zeta j:=w64 (q.1+1);let +zeta i:=q.2.1;let +zeta g:=q.1<(↑p.1.length:Int);let +zeta e:=i.length;let +zeta h:=c.ble e&&true&&true;let +zeta d:=decide (0≤q.1)&&decide g;let +zeta b:=f+Int.toNat q.1;let +zeta a:=List.getD i b dCt;br (decide g) (need d (need (b.blt e) (br (a.id==id) (need d (need (b.blt e&&true) (ret (inl (j,List.set i b {a with notice:=t},()))))) (ret (inl (j,i,())))))) (need (c.ble e&&true) (need h (need h (ret (inr ({s with conts:=@aO Ct f c i},()))))))

theorem zFZ{s:Se}{id:Int}{t:Int}{r:(Se×Unit)}(h:(qSH s id t).G r):qAf s id t=true∧qBZ s id t=r:=bP (wX (s,id,t,())) (by kernel_rfl) h
def qKL(s:Se)(c:Ct):DT (Int×Unit) :=
 let +zeta d:=(↑s.conts.length:Int);loop (0,0,()) fun(p:Int×Int×Unit) =>let +zeta b:=ixB p.2.1 d;let +zeta a:=s.conts.getD (Int.toNat p.2.1) dCt;br (decide (p.2.1<d)) (br c.master ((need b (br (a.app==c.app) (need b (br (a.id != c.id) (need b (br (a.label==c.label) (need b (ret (inl (w64 (p.1+a.size.mem),())))) (ret (inl (p.1,()))))) (ret (inl (p.1,()))))) (ret (inl (p.1,()))))).join fun(s:Int×Unit)=>ret (inl (s.1,w64 (p.2.1+1),()))) (ret (inr (p.1,())))) (ret (inr (p.1,())))

theorem qVP{s:Se}{c:Ct}{r:(Int×Unit)}(h:(qKL s c).G r):xU s c=true∧qAS s c=r:=bP (wX (s,c,())) (by kernel_rfl) h
def qN1(s:Se)(l:List Ak)(more:List Ak):DT (List Ak×Int×Unit) :=
 let +zeta e:=0;let +zeta d:=(↑s.conf.labels.length:Int);let +zeta b:=(↑more.length:Int);loop (l,e,()) fun(p:List Ak×Int×Unit) =>let +zeta f:=p.2.1;let +zeta a:=more.getD (Int.toNat f) dAk;let +zeta c:=shut qF7 p.1 a;br (decide (f<b)) ((need (ixB f b) (br (shut qAR a d != e) (ret (inr (inr ([],shut qAR a d,())))) (need (ixB f b) (need (sm p.1.length) (br (c.2 != e) (ret (inr (inr ([],c.2,())))) (ret (inl (c.1,())))))))).join fun(q:List Ak×Unit)=>ret (inl (q.1,w64 (f+1),()))) (ret (inr (p.1,e,())))

theorem zB6{s:Se}{l:List Ak}{more:List Ak}{r:(List Ak×Int×Unit)}(h:(qN1 s l more).G r):qAT s l more=true∧qDm s l more=r:=bP (wX (s,l,more,())) (by kernel_rfl) h
def qBb(ok:Int×Unit→Bool)(m:Int×Unit→B×Unit)(n:Int):DT (B×Unit) :=
 let +zeta j:=53;let +zeta i:=48;let +zeta g:=9223372036854775807;let +zeta f:=w64 (0-n);let +zeta e:=56;let +zeta d:=55;let +zeta c:=51;let +zeta b:=50;let +zeta a:=10;let +zeta h:=w64 (n.tdiv a);br (decide (n<0)) (br (n==(-9223372036854775808:Int)) (ret ([45,57,b,b,c,c,d,b,i,c,54,e,j,52,d,d,j,e,i,e],())) (need (ok (f,())) (need ((1+List.length (m (f,())).1).ble g) (ret ([45]++(m (f,())).1,()))))) (br (decide (n≥a)) (need (ok (h,())) (need (ok (n.tmod a,())) (need ((List.length (m (h,())).1+List.length (m (n.tmod a,())).1).ble g) (ret ((m (h,())).1++(m (n.tmod a,())).1,()))))) (ret ([UInt8.ofNat (IntKind.u8.wrap (w64 (48+n))).toNat],())))

theorem qVQ(ok:Int×Unit→Bool)(m:Int×Unit→B×Unit)(n:Int)(r:(List UInt8×Unit)):(tree (xV ok m) noL noL 49 [.int .i64] [.str] (n,())).G r=(qBb ok m n).G r:=by kernel_rfl
theorem qKM{fu:Nat}{n:Int}{r:(List UInt8×Unit)}(h:(qBb (fun a=>uY fu a.1) (fun a=>xW fu a.1) n).G r):uY (fu+1) n=true∧xW (fu+1) n=r:=bP (qVz fu (n,())) (qVQ _ _ n r) h
def zGa(s:B)(c:Int):DT (List (B)×Unit) :=
 let +zeta j:=B;let +zeta i:=1;let +zeta g:=0;let +zeta e:=(↑s.length:Int);(loop ([],0,0,()) fun(p:List (B)×Int×Int×Unit) =>let +zeta h:=p.2.2.1;let +zeta a:=p.1.length;let +zeta d:=@bF j g a p.1++[@aO UInt8 (Int.toNat p.2.1) (Int.toNat h) s];br (decide (h<e)) ((need (decide (0≤h)&&decide (h<e)) (br ((↑(List.getD s (Int.toNat h) (OfNat.ofNat g)).toNat:Int)==c) ((need (inB p.2.1 h e) (need ((g+a).beq a) (need (aT (a+i) 16&&(g+a).ble a) (need ((a+i).beq d.length) (ret (inl (d,()))))))).join fun(q:List (B)×Unit)=>need (q.1.length.beq q.1.length) (ret (inl (q.1,w64 (h+1),())))) (need (a.beq a) (ret (inl (p.1,p.2.1,())))))).join fun(q:List (B)×Int×Unit)=>need (q.1.length.beq q.1.length) (ret (inl (q.1,q.2.1,w64 (h+1),())))) (need (a.beq a) (ret (inr (inl (p.1,p.2.1,())))))).join fun(p:List (B)×Int×Unit) =>let +zeta f:=p.1.length;let +zeta b:=@bF j g f p.1++[@aO UInt8 (Int.toNat p.2.1) e.toNat s];(br (decide (p.2.1<e)) (need (inB p.2.1 e e) (need ((g+f).beq f) (need (aT (f+i) 16&&(g+f).ble f) (need ((f+i).beq b.length) (ret (inl (b,()))))))) (need (f.beq f) (ret (inl (p.1,()))))).join fun(q:List (B)×Unit) =>let +zeta k:=q.1.length;need ((g+k).ble k) (ret (@aO j g (g+k) q.1,()))

theorem zMN{s:B}{c:Int}{r:(List (List UInt8)×Unit)}(h:(zGa s c).G r):qFG s c=true∧qK7 s c=r:=bP (wX (s,c,())) (by kernel_rfl) h
def qN2(s:B):DT (Int×Bool×Unit) :=
 let +zeta i:=1;let +zeta h:=48;let +zeta g:=0;let +zeta d:=0;let +zeta a:=(↑s.length:Int);br (decide (a<i)) (ret (d,false,())) (br (decide (a>7)) (ret (d,false,())) (need (decide (d<a)) (br ((↑(List.getD s 0 g).toNat:Int)==h) (br (decide (a>i)) (ret (d,false,())) (loop (d,d,()) fun(p:Int×Int×Unit) =>let +zeta j:=p.2.1;let +zeta e:=decide (d≤j)&&decide (j<a);let +zeta b:=(↑(List.getD s (Int.toNat j) g).toNat:Int);br (decide (j<a)) ((need e (br (decide (b<h)) (ret (inr (inr (d,false,())))) (need e (br (decide (b>57)) (ret (inr (inr (d,false,())))) (need e (ret (inl (w64 (w64 (p.1*10)+w64 (IntKind.u8.wrap (b-h))),())))))))).join fun(s:Int×Unit)=>ret (inl (s.1,w64 (j+i),()))) (ret (inr (p.1,true,()))))) (loop (d,d,()) fun(p:Int×Int×Unit) =>let +zeta k:=p.2.1;let +zeta f:=decide (d≤k)&&decide (k<a);let +zeta c:=(↑(List.getD s (Int.toNat k) g).toNat:Int);br (decide (k<a)) ((need f (br (decide (c<h)) (ret (inr (inr (d,false,())))) (need f (br (decide (c>57)) (ret (inr (inr (d,false,())))) (need f (ret (inl (w64 (w64 (p.1*10)+w64 (IntKind.u8.wrap (c-h))),())))))))).join fun(s:Int×Unit)=>ret (inl (s.1,w64 (k+i),()))) (ret (inr (p.1,true,())))))))

theorem zB7{s:B}{r:(Int×Bool×Unit)}(h:(qN2 s).G r):rG s=true∧lW s=r:=bP (wX (s,())) (by kernel_rfl) h
def qY2(s:B):DT (Bool×Unit) :=
 let +zeta c:=(↑s.length:Int);br (decide (c<1)) (ret (false,())) (br (decide (c>12)) (ret (false,())) (loop (0,()) fun(p:Int×Unit) =>let +zeta b:=w64 (p.1+1);let +zeta a:=(↑(List.getD s (Int.toNat p.1) (0)).toNat:Int);let +zeta f:=decide (a>57);let +zeta e:=decide (a<48);let +zeta d:=a != 45;br (decide (p.1<c)) (need (decide (0≤p.1)&&decide (p.1<c)) (br (decide (a<97)) (br e (br d (ret (inr (false,()))) (ret (inl (b,())))) (br f (br d (ret (inr (false,()))) (ret (inl (b,())))) (ret (inl (b,()))))) (br (decide (a>122)) (br e (br d (ret (inr (false,()))) (ret (inl (b,())))) (br f (br d (ret (inr (false,()))) (ret (inl (b,())))) (ret (inl (b,()))))) (ret (inl (b,())))))) (ret (inr (true,())))))

theorem zJG{s:B}{r:(Bool×Unit)}(h:(qY2 s).G r):qAg s=true∧qDn s=r:=bP (wX (s,())) (by kernel_rfl) h
def qY3(c:Cf):DT (Bool×Unit) :=
 let +zeta h:=(↑c.queues.length:Int);let +zeta g:=1;let +zeta f:=cfN 1000000000 c;let +zeta e:=0;loop (e,()) fun(s:Int×Unit) =>let +zeta a:=shut fG c (c.queues.getD (Int.toNat s.1) dQu).path;let +zeta d:=(↑a.length:Int);br (decide (s.1<h)) (need (ixB s.1 h) (need f (loop (e,()) fun(p:Int×Unit)=>br (decide (p.1<(↑c.labels.length:Int))) (br (decide (d>e)) ((loop (e,e,()) fun(q:Int×Int×Unit) =>let +zeta b:=shut dM c (a.getD (Int.toNat q.2.1) []);br (decide (q.2.1<d)) (need (ixB q.2.1 d) (need f (need (ixB p.1 (↑b.1.caps.length:Int)) (ret (inl (w64 (q.1+(b.1.caps.getD (Int.toNat p.1) dCp).least),w64 (q.2.1+g),())))))) (ret (inr (inl (q.1,()))))).join fun(s:Int×Unit)=>br (s.1 != 10000) (ret (inr (inr (false,())))) (ret (inl (w64 (p.1+g),())))) (ret (inr (inl (w64 (s.1+g),()))))) (ret (inr (inl (w64 (s.1+g),()))))))) (ret (inr (true,())))

theorem zJH{c:Cf}{r:(Bool×Unit)}(h:(qY3 c).G r):qFH c=true∧qIK c=r:=bP (wX (c,())) (by kernel_rfl) h
def qY4(l:List Ak)(prio:Int):DT (List Ak×Unit) :=
 let +zeta g:=1;let +zeta e:=0;(need (aT (e+l.length) 64&&true) (need ((e+l.length).beq ([]++l).length) (ret (inl ([]++l,()))))).join fun(s:List Ak×Unit)=>loop (0,s.1,()) fun(p:Int×List Ak×Unit) =>let +zeta f:=p.1<(↑s.1.length:Int);let +zeta d:=p.2.1;let +zeta c:=e+Int.toNat p.1;let +zeta b:=decide (0≤p.1)&&decide f;let +zeta a:=List.getD d c dAk;br (decide f) (need b (need (c.blt d.length) (br (a.prio==prio) (need b (need (c.blt d.length) (need b (need (c.blt d.length&&true) (ret (inl (w64 (p.1+g),List.set d c {a with missed:=if 100<w64 (a.missed+g) then 100 else w64 (a.missed+g)},()))))))) (ret (inl (w64 (p.1+g),d,())))))) (need ((e+s.1.length).ble d.length) (ret (inr (@aO Ak e (e+s.1.length) d,()))))

theorem zJI{l:List Ak}{prio:Int}{r:(List Ak×Unit)}(h:(qY4 l prio).G r):qFI l prio=true∧qIL l prio=r:=bP (wX (l,prio,())) (by kernel_rfl) h
def qSI(a:Ap):DT (Bool×Unit) :=
 br (a.state==1) (ret (true,())) (ret (a.state==2,()))

theorem zGb{a:Ap}{r:(Bool×Unit)}(h:(qSI a).G r):lX a=true∧pM a=r:=bP (wX (a,())) (by kernel_rfl) h
def qSJ(n:Int):DT (Int×Unit) :=
 br (decide (n<0)) (ret (0,())) (br (decide (n>1125899906842624)) (ret (0,())) (ret (n,())))

theorem zGc{n:Int}{r:(Int×Unit)}(h:(qSJ n).G r):lY n=true∧lK n=r:=bP (wX (n,())) (by kernel_rfl) h
end Go.Proofs.YtlmkakccmpncjaaGreatDoor
