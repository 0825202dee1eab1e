/- Part of the proof: texts Ca Cb1. No conditions. -/
import Derived.Test.YtlmkakccmpncjaaGreatDoorAa
import Derived.Test.YtlmkakccmpncjaaGreatDoorVg
set_option linter.all false
noncomputable section
namespace Go.Proofs.YtlmkakccmpncjaaGreatDoor
open Sum
open Go Go.W Go.Proofs
set_option maxRecDepth 100000
def kip(m:Nat):List Kd:=[.int .i64,.int .i64,.int .i64,.int .i64,.str,.rcd 53,.rcd 43,.dat 131,.own m 3 false,.rcd 55]
def qCo(st:St aC.T)(t:Nat):List Ld:=match st.env.get t with | some (.ptr i _ _)=>[.obj i (kip (match st.hp.get i with | some (.rows _ [cs])=>(match cs.getD (Nat.add 6 (Nat.add (Kd.w aC (.rcd 53)) (Kd.w aC (.rcd 43)))) .any with | .sl j _ _ _=>j | _=>Nat.add st.hp.nx 50) | _=>0))] | _=>[]
def qVY:=ljT [(4,fun st=>[si 5])]
def qNB:=uA qCn noL qVY 50 [.int .i64,.int .i64] [.int .i64]
def jF(k:Int)(n:Int):Bool:=(qNB (k,n,())).isSome
def cK(k:Int)(n:Int):Int×Unit:=(qNB (k,n,())).getD ((0:Int),())
def qHu:TB:=eD aC [.int .i64,.int .i64] [.int .i64] (fun a=>jF a.1 a.2.1) (fun a=>cK a.1 a.2.1)
theorem qNC:aJ 50 qHu:=rAb rM (by kernel_rfl) rfl rfl fun _=>rfl
def qYE:=uA qCn noL noL 52 [.dat 3,.int .i64] [.int .i64]
def tN(ns:List Int)(i:Int):Bool:=(qYE (ns,i,())).isSome
def bQ(ns:List Int)(i:Int):Int×Unit:=(qYE (ns,i,())).getD ((0:Int),())
def qP9:TB:=eD aC [.dat 3,.int .i64] [.int .i64] (fun a=>tN a.1 a.2.1) (fun a=>bQ a.1 a.2.1)
theorem qYF:aJ 52 qP9:=rAb rM (by kernel_rfl) rfl rfl fun _=>rfl
def qVZ:=ljT [(4,fun st=>[si 5])]
def qND:=uA qCn noL qVZ 53 [.int .i64,.int .i64] [.int .i64]
def aX(k:Int)(n:Int):Bool:=(qND (k,n,())).isSome
def bA(k:Int)(n:Int):Int×Unit:=(qND (k,n,())).getD ((0:Int),())
def qNE:TB:=eD aC [.int .i64,.int .i64] [.int .i64] (fun a=>aX a.1 a.2.1) (fun a=>bA a.1 a.2.1)
theorem zBG:aJ 53 qNE:=rAb rM (by kernel_rfl) rfl rfl fun _=>rfl
def qTf:=ljT [(4,fun st=>[si 5])]
def qKT:=uA qCn noL qTf 7 [.int .i64,.int .i64] [.int .i64]
def oQ(k:Int)(n:Int):Bool:=(qKT (k,n,())).isSome
def jG(k:Int)(n:Int):Int×Unit:=(qKT (k,n,())).getD ((0:Int),())
def qE7:TB:=eD aC [.int .i64,.int .i64] [.int .i64] (fun a=>oQ a.1 a.2.1) (fun a=>jG a.1 a.2.1)
theorem qKU:aJ 7 qE7:=rAb rM (by kernel_rfl) rfl rfl fun _=>rfl
def zG0:=uA qCn noL noL 5 [.rcd 25] [.bool]
def qGb(x:Scr):Bool:=(zG0 (x,())).isSome
def qKV(x:Scr):Bool×Unit:=(zG0 (x,())).getD (false,())
def qWa:TB:=eD aC [.rcd 25] [.bool] (fun a=>qGb a.1) (fun a=>qKV a.1)
theorem zG1:aJ 5 qWa:=rAb rM (by kernel_rfl) rfl rfl fun _=>rfl
def qWb:=ljT [(3,fun st=>[aS st 3 9 false,si 4])]
def qWc:=ljT [(4,fun st=>[aS st 3 9 false])]
def qNF:=uA qCn qWb qWc 54 [.rcd 30] [.dat 9]
def qBc(c:Cf):Bool:=(qNF (c,())).isSome
def qAq(c:Cf):(List B)×Unit:=(qNF (c,())).getD ([],())
def qNG:TB:=fzR (con [.rcd 30] [.dat 9] (fun a=>qBc a.1) (fun a=>qAq a.1) rfl)
theorem zBH:aJ 54 qNG:=rA rM (by kernel_rfl) rfl rfl
def qYG:=uA qCn noL noL 14 [] [.rcd 37]
def qGc  : Bool:=(qYG (())).isSome
def qD9  : Se×Unit:=(qYG (())).getD (dSe,())
def qYH:TB:=fzR (con [] [.rcd 37] (fun a=>qGc ) (fun a=>qD9 ) rfl)
theorem zJS:aJ 14 qYH:=rA rM (by kernel_rfl) rfl rfl
def zMP:Con aC.T:=oO [(50,qHu),(52,qP9),(53,qNE),(7,qE7),(5,qWa),(54,qNG),(14,qYH)] zMM
theorem qYI:iH Tryz.prog zMP:=fJ (aA qNC (aA qYF (aA zBG (aA qKU (aA zG1 (aA zBH (aA zJS (eX)))))))) qY1
def zG2:Hd aC.T:=hdT aC Tryz.prog zMP (fun _=>false) 1000 5
theorem zBI:bI Tryz.prog zG2:=bU mixed hno qYI _ _ _
def qYJ:=uA zG2 noL noL 55 [.int .i64] [.rcd 40]
def qAr(n:Int):Bool:=(qYJ (n,())).isSome
def qBd(n:Int):Vec×Unit:=(qYJ (n,())).getD (gQ,())
def qYK:TB:=eD aC [.int .i64] [.rcd 40] (fun a=>qAr a.1) (fun a=>qBd a.1)
theorem zJT:aJ 55 qYK:=rAb zBI (by kernel_rfl) rfl rfl fun _=>rfl
def zG3(r l:Int)(args:List VK)(q:VK×Hp aC.T):Out (VK×Hp aC.T):=match Nat.ble q.2.nx 9 with
 | true=>(match args,q.1 with
  | [_,.d (.int _ n)],.d (.int k m)=>(match decide (n=5) with
   | true=>.need (decide (m=r)) (.ret (.d (.int k r),q.2))
   | false=>.need (decide (m=l)) (.ret (.d (.int k l),q.2)))
  | _,_=>.ret q)
 | false=>.ret q
theorem zJU{r l:Int}{args:List VK}{q:VK×Hp aC.T}{Q:VK×Hp aC.T→Prop}(hK:(zG3 r l args q).K Q):Q q:=by
 obtain⟨v,h⟩:=q
 unfold zG3 at hK
 split at hK
 ·split at hK
  ·rename_i n k m hv
   have hv:v=.d (.int k m):=hv
   subst hv
   split at hK
   ·obtain⟨h1,h2⟩:=Out.bO.1 hK
    have e:m=r:=by simpa using h1
    rw[e];exact h2
   ·obtain⟨h1,h2⟩:=Out.bO.1 hK
    have e:m=l:=by simpa using h1
    rw[e];exact h2
  ·exact hK
 ·exact hK
def zMQ(r l:Int)(S:TB):TB:=fun args h=>(S args h).bind fun q=>zG3 r l args q
theorem zJV{f:FuncId}{S:TB}{r l:Int}(hS:aJ f S):aJ f (zMQ r l S):=by
 intro args h Q hq
 simp only[zMQ,Out.cO] at hq
 have: (S args h).K Q:=by
  rw[Out.fF] at hq ⊢
  obtain⟨q,h1,h2⟩:=hq
  exact⟨q,h1,zJU h2⟩
 exact hS args h Q this
def qDA:TB:=con [.str] [.str] (fun a=>sm (List.length a.1)) (fun a=>(eO a.1,())) rfl
theorem zBJ:aJ 139 qDA:=by
 have e:qDA=wI:=by unfold qDA wI;rw[aK]
 rw[e];exact qBS
def AG(r l:Int):Con aC.T:=fun f=>bV [(50,zMQ r l qHu),(52,qP9),(139,qDA)] f
theorem zOU(r l:Int):iH Tryz.prog (AG r l):=aA (zJV qNC) (aA qYF (aA zBJ eX))
def zOV(r l:Int):Hd aC.T:=hdT aC Tryz.prog (AG r l) (fun _=>false) 1000 8
theorem zJW(r l:Int):bI Tryz.prog (zOV r l):=bU mixed hno (zOU r l) _ _ _
def zOW(st:St aC.T)(t:Nat):List UInt8:=match st.env.get t with
 | some (.ptr i _ _)=>(match st.hp.get i with
  | some (.rows _ [.d (.str s)::_])=>s
  | _=>[])
 | _=>[]
def zOX{α β:Type}:List α→(List α→β)→β
 | [],k=>k []
 | x::l,k=>zOX l fun l=>k (x::l)
def qTg(id:Nat)(st:St aC.T):Option (List Ld):=match id with
 | 10=>zOX (zOW st 9) fun p=>some (bK st 9 [.cst (.str p),.cst .nils,.int .i64])
 | 29=>some ([.slot 16 (.int .i64)])
 | 31=>some ([.slot 17 (.int .i64)])
 | _=>none
def nZ(r l:Int)(a:Ka [.int .i64,.dat 3]):DT (Ka [.rcd 30]):=tree (zOV r l) noL qTg 17 [.int .i64,.dat 3] [.rcd 30] a
def uZ:Ka [.int .i64,.dat 3]→Option (Ka [.rcd 30]):=hide fun a=>(nZ (cK a.1 5).1 (cK (w64 (Int.tdiv a.1 5)) 2).1 a).val
theorem qYL(a:Ka [.int .i64,.dat 3]):uZ a=(nZ (cK a.1 5).1 (cK (w64 (Int.tdiv a.1 5)) 2).1 a).val:=congrFun (qAI _) a
def qCp(shape:Int)(ns:List Int):Bool:=(uZ (shape,ns,())).isSome
def lZ(shape:Int)(ns:List Int):Cf×Unit:=(uZ (shape,ns,())).getD (dCf,())
def qYM:TB:=fzR (con [.int .i64,.dat 3] [.rcd 30] (fun a=>qCp a.1 a.2.1) (fun a=>lZ a.1 a.2.1) rfl)
theorem zJX:aJ 17 qYM:=by
 refine nV (Spec.nT ⟨there _ (by kernel_rfl),fun a ha=>?_⟩ (qFv _ _ _ _ rfl) (fun _=>cz _))
 obtain⟨fn,hfn⟩:∃fn,Tryz.prog.funcs[17]? = some fn:=⟨_,rfl⟩
 refine(qGV (fuel:=1000) (L:=noL) (J:=qTg) mixed (zJW (cK a.1 5).1 (cK (w64 (Int.tdiv a.1 5)) 2).1) hfn (there _ (by kernel_rfl)) (ka:=[.int .i64,.dat 3]) (kr:=[.rcd 30]) rfl (pre:=fun b=>@decide (b=a) (Classical.propDecidable _)&&qCp b.1 b.2.1) (M:=fun b=>lZ b.1 b.2.1) fun b hb=>?_).2 a ?_
 ·simp only[bn,decide_eq_true_eq] at hb
  obtain⟨rfl,hb⟩:=hb
  have hu:(uZ b).isSome=true:=hb
  have: (nZ (cK b.1 5).1 (cK (w64 (Int.tdiv b.1 5)) 2).1 b).G ((uZ b).getD ((dCf,()):Cf×Unit)):=by
   rw[qYL] at hu ⊢
   exact DT.qQR hu
  unfold nZ tree at this
  rw[hfn] at this
  exact this
 ·exact(bn _ _).mpr ⟨@decide_eq_true _ (Classical.propDecidable _) rfl,ha⟩
def zMR:Con aC.T:=oO [(55,qYK),(17,qYM)] zMP
theorem qYN:iH Tryz.prog zMR:=fJ (aA zJT (aA zJX (eX))) qYI
def zG4:Hd aC.T:=hdT aC Tryz.prog zMR (fun _=>false) 1000 5
theorem zBK:bI Tryz.prog zG4:=bU mixed hno qYN _ _ _
def qWd:=ljT [(14,fun st=>[si 8]++qCo st 5)]
def qWe:=ljT [(10,fun st=>bK st 7 [.rcd 131]),(12,fun st=>bK st 7 [.rcd 131]),(13,fun st=>qCo st 5),(15,fun st=>qCo st 5)]
def qNH:=uA zG4 qWd qWe 56 [.rcd 67,.rcd 37] [.rcd 57]
def qBe(a:Act)(s:Se):Bool:=(qNH (a,s,())).isSome
def qDB(a:Act)(s:Se):Ip×Unit:=(qNH (a,s,())).getD (dIp,())
def qNI:TB:=fzR (con [.rcd 67,.rcd 37] [.rcd 57] (fun a=>qBe a.1 a.2.1) (fun a=>qDB a.1 a.2.1) rfl)
theorem zBL:aJ 56 qNI:=rA zBK (by kernel_rfl) rfl rfl
def zMS:Con aC.T:=oO [(56,qNI)] zMR
theorem qYO:iH Tryz.prog zMS:=fJ (aA zBL (eX)) qYN
def zG5:Hd aC.T:=hdT aC Tryz.prog zMS (fun _=>false) 1000 5
theorem zBM:bI Tryz.prog zG5:=bU mixed hno qYO _ _ _
def zBN:=ljT [(15,fun st=>[si 9]++qCo st 8),(20,fun st=>[si 10]++qCo st 8)]
def zBO:=ljT [(7,fun st=>[.slot 30 (.bool)]),(13,fun st=>[.slot 53 (.bool)]),(16,fun st=>qCo st 8),(19,fun st=>qCo st 8),(21,fun st=>qCo st 8),(26,fun st=>[.slot 121 (.bool)]),(31,fun st=>[.slot 148 (.bool)]),(37,fun st=>[.slot 168 (.bool)])]
def qTh:=uA zG5 zBN zBO 18 [.rcd 67,.rcd 37] [.rcd 57]
def qDC(a:Act)(s:Se):Bool:=(qTh (a,s,())).isSome
def qCq(a:Act)(s:Se):Ip×Unit:=(qTh (a,s,())).getD (dIp,())
def qTi:TB:=fzR (con [.rcd 67,.rcd 37] [.rcd 57] (fun a=>qDC a.1 a.2.1) (fun a=>qCq a.1 a.2.1) rfl)
theorem zG6:aJ 18 qTi:=rA zBM (by kernel_rfl) rfl rfl
def zOY:Con aC.T:=oO [(18,qTi)] zMS
theorem zJY:iH Tryz.prog zOY:=fJ (aA zG6 (eX)) qYO
def zG7:Hd aC.T:=hdT aC Tryz.prog zOY (fun _=>false) 1000 5
theorem zBP:bI Tryz.prog zG7:=bU mixed hno zJY _ _ _
def zBQ:=ljT [(6,fun st=>[si 6]++bK st 3 [.rcd 37])]
def zBR:=ljT [(5,fun st=>bK st 3 [.rcd 37])]
def qTj:=uA zG7 zBQ zBR 6 [.rcd 25] [.rcd 37]
def qDD(x:Scr):Bool:=(qTj (x,())).isSome
def qGd(x:Scr):Se×Unit:=(qTj (x,())).getD (dSe,())
def qTk:TB:=fzR (con [.rcd 25] [.rcd 37] (fun a=>qDD a.1) (fun a=>qGd a.1) rfl)
theorem zG8:aJ 6 qTk:=rA zBP (by kernel_rfl) rfl rfl
end Go.Proofs.YtlmkakccmpncjaaGreatDoor
namespace Go.Proofs.YtlmkakccmpncjaaGreatDoor
open Sum
open Go Go.W Go.Proofs
open Go.W.DT (ret need br bad loop join)
set_option maxRecDepth 100000
def qNJ(k:Int)(n:Int):DT (Int×Unit) :=
 need (!decide (n=0)) ((br (decide (k.tmod n<0)) (ret (inl (w64 (k.tmod n+n),()))) (ret (inl (k.tmod n,())))).join fun(s:Int×Unit)=>ret (s.1,()))

theorem zBS{k:Int}{n:Int}{r:(Int×Unit)}(h:(qNJ k n).G r):jF k n=true∧cK k n=r:=bP (wX (k,n,())) (by kernel_rfl) h
def qYP(ns:List Int)(i:Int):DT (Int×Unit) :=
 let +zeta a:=(↑ns.length:Int);br (a==0) (ret (i,())) (need (!decide (a=0)) (need (ixB (i.tmod a) a) (ret (ns.getD (i.tmod a).toNat 0,()))))

theorem zJZ{ns:List Int}{i:Int}{r:(Int×Unit)}(h:(qYP ns i).G r):tN ns i=true∧bQ ns i=r:=bP (wX (ns,i,())) (by kernel_rfl) h
def qNK(k:Int)(n:Int):DT (Int×Unit) :=
 need (!decide (n=0)) ((br (decide (k.tmod n<0)) (ret (inl (w64 (k.tmod n+n),()))) (ret (inl (k.tmod n,())))).join fun(s:Int×Unit)=>ret (s.1,()))

theorem zBT{k:Int}{n:Int}{r:(Int×Unit)}(h:(qNK k n).G r):aX k n=true∧bA k n=r:=bP (wX (k,n,())) (by kernel_rfl) h
def qE8(k:Int)(n:Int):DT (Int×Unit) :=
 need (!decide (n=0)) ((br (decide (k.tmod n<0)) (ret (inl (w64 (k.tmod n+n),()))) (ret (inl (k.tmod n,())))).join fun(s:Int×Unit)=>ret (s.1,()))

theorem qKW{k:Int}{n:Int}{r:(Int×Unit)}(h:(qE8 k n).G r):oQ k n=true∧jG k n=r:=bP (wX (k,n,())) (by kernel_rfl) h
def zG9(x:Scr):DT (Bool×Unit) :=
 br (decide ((↑x.ns.length:Int)≤30)) (ret (decide ((↑x.acts.length:Int)≤80),())) (ret (false,()))

theorem zMT{x:Scr}{r:(Bool×Unit)}(h:(zG9 x).G r):qGb x=true∧qKV x=r:=bP (wX (x,())) (by kernel_rfl) h
def qNL(c:Cf):DT (List (B)×Unit) :=
 let +zeta d:=(↑c.queues.length:Int);loop ([],0,()) fun(s:List (B)×Int×Unit) =>let +zeta f:=c.queues.getD (Int.toNat s.2.1) dQu;let +zeta a:=s.1.length;let +zeta e:=0+a;let +zeta b:=@bF (B) 0 a s.1++[f.path];br (decide (s.2.1<d)) ((need (ixB s.2.1 d) (need (cfN 1000000000 c) (br (shut mP c f.path) (need (ixB s.2.1 d) (need (e.beq a) (need (aT (a+1) 16&&e.ble a) (need ((a+1).beq b.length) (ret (inl (b,()))))))) (need (a.beq a) (ret (inl (s.1,()))))))).join fun(p:List (B)×Unit)=>need (p.1.length.beq p.1.length) (ret (inl (p.1,w64 (s.2.1+1),())))) (need (e.ble a) (ret (inr (@aO (B) 0 e s.1,()))))

theorem zBU{c:Cf}{r:(List (List UInt8)×Unit)}(h:(qNL c).G r):qBc c=true∧qAq c=r:=bP (wX (c,())) (by kernel_rfl) h
def zKa  : DT (Se×Unit) :=
 let +zeta b:=111;let +zeta a:=10000;ret (Se.mk (Cf.mk [[]] [Qu.mk [114,b,b,116] [Cp.mk a a] a]) [] [] [] [] [] 0 0 0,())

theorem qYQ  {r:(Se×Unit)} (h:(zKa ).G r):qGc  = true∧qD9  = r:=bP (wX (())) (by kernel_rfl) h
def qYR(n:Int):DT (Vec×Unit) :=
 let +zeta c:=1;let +zeta a:=bA n 5;let +zeta b:=0+Int.toNat a.1;need (aX n 5) (need (decide (0≤a.1)&&decide (a.1<5)) (need (b.blt 5) (ret ([Vec.mk c c,Vec.mk 2 c,Vec.mk 4 4,Vec.mk 3 2,Vec.mk c 3].getD b gQ,()))))

theorem zKb{n:Int}{r:(Vec×Unit)}(h:(qYR n).G r):qAr n=true∧qBd n=r:=bP (wX (n,())) (by kernel_rfl) h
def qNM(a:Act)(s:Se):DT (Ip×Unit) :=
 let +zeta ab:=bA a.d 7;let +zeta y:=3;let +zeta v:=5;let +zeta u:=(↑s.conts.length:Int);let +zeta r:=(↑s.conf.labels.length:Int);let +zeta o:=0;let +zeta k:=(↑s.apps.length:Int);let +zeta g:=s.apps.getD (Int.toNat (bA a.a k).1) dAp;let +zeta j:=w64 (w64 (g.beat+1)-w64 (Int.tdiv (bA a.b 8).1 6));br (k==o) (ret (Ip.mk v o o o [] dNd dAp [] [] dPn,())) (need (aX a.a k) (need (ixB (bA a.a k).1 k) (need (aX a.b 8) ((br (decide (a.c.tmod y>o)) (need (aX a.b v) (need (aX a.c r) (need (qAr a.d) (need (aX a.d 7) ((br (a.d.tmod 4==1) (need (aX a.c y) (ret (inl ((Ak.mk (bA a.b v).1 (bA a.c r).1 (qBd a.d).1 ab.1 (-1:Int) (bA a.c y).1 o,()),())))) (ret (inl ((Ak.mk (bA a.b v).1 (bA a.c r).1 (qBd a.d).1 ab.1 (-1:Int) (-1:Int) o,()),())))).join fun(p:(Ak×Unit)×Unit) =>let +zeta e:=p.1.1;(br (a.d.tmod 4==2) (need (aX a.c y) (need (aX a.b 6) (ret (inl (({e with node:=(bA a.b 6).1,rack:=(bA a.c y).1},()),()))))) (ret (inl ((e,()),())))).join fun(w:(Ak×Unit)×Unit)=>ret (inl ((v,g.id,j,o,[],dNd,dAp,[w.1.1],[],dPn,()),()))))))) (ret (inl ((v,g.id,j,o,[],dNd,dAp,[],[],dPn,()),())))).join fun(p:(Int×Int×Int×Int×B×Nd×Ap×List Ak×List Int×Pn×Unit)×Unit) =>let +zeta ad:=p.1.2.2;let +zeta l:=ad.2.2.2;need (l.2.2.2.1.length.beq l.2.2.2.1.length) (loop (o,(p.1.1,p.1.2.1,ad.1,ad.2.1,ad.2.2.1,l.1,l.2.1,l.2.2.1,l.2.2.2.1,l.2.2.2.2.1,()),()) fun(w:Int×(Int×Int×Int×Int×B×Nd×Ap×List Ak×List Int×Pn×Unit)×Unit) =>let +zeta af:=w.1;let +zeta x:=s.conts.getD (Int.toNat af) dCt;let +zeta t:=w.2.1;let +zeta i:=t.2.2;let +zeta z:=i.2.2;let +zeta f:=z.2.2;let +zeta aa:=f.2.2;let +zeta h:=aa.1.length;let +zeta q:=0+h;let +zeta ac:=q.ble h&&true&&true;let +zeta n:=@bF Int 0 h aa.1++[x.id];br (decide (af<u)) ((need (ixB af u) (br (x.app==g.id) (need (aX (w64 (a.d+af)) 11) (br ((bA (w64 (a.d+af)) 11).1==10) (need (ixB af u) (need (q.beq h) (need (aT (h+1) 8&&q.ble h) (need ((h+1).beq n.length) (ret (inl ((t.1,t.2.1,i.1,i.2.1,z.1,z.2.1,f.1,f.2.1,n,aa.2.1,()),()))))))) (need (h.beq h) (ret (inl ((t.1,t.2.1,i.1,i.2.1,z.1,z.2.1,f.1,f.2.1,aa.1,aa.2.1,()),())))))) (need (h.beq h) (ret (inl ((t.1,t.2.1,i.1,i.2.1,z.1,z.2.1,f.1,f.2.1,aa.1,aa.2.1,()),())))))).join fun(s_3:(Int×Int×Int×Int×B×Nd×Ap×List Ak×List Int×Pn×Unit)×Unit) =>let +zeta ae:=s_3.1.2.2;let +zeta m:=ae.2.2.2;need (m.2.2.2.1.length.beq m.2.2.2.1.length) (ret (inl (w64 (af+1),(s_3.1.1,s_3.1.2.1,ae.1,ae.2.1,ae.2.2.1,m.1,m.2.1,m.2.2.1,m.2.2.2.1,m.2.2.2.2.1,()),())))) (need (q.ble h&&true) (need ac (need ac (ret (inr (Ip.mk t.1 t.2.1 i.1 i.2.1 z.1 z.2.1 f.1 f.2.1 (@aO Int 0 q aa.1) aa.2.1,())))))))))))

theorem zBV{a:Act}{s:Se}{r:(Ip×Unit)}(h:(qNM a s).G r):qBe a s=true∧qDB a s=r:=bP (wX (a,s,())) (by kernel_rfl) h
def qTl(a:Act)(s:Se):DT (Ip×Unit) :=
 let +zeta a0:=lZ a.b [a.c,a.d];let +zeta aq:=9;let +zeta ap:=5;let +zeta ao:=6;let +zeta an:=2;let +zeta al:=20;let +zeta ak:=12;let +zeta ai:=4;let +zeta ah:=(↑s.conts.length:Int);let +zeta ag:=(↑s.nodes.length:Int);let +zeta ae:=8;let +zeta ab:=1;let +zeta x:=bA a.b an;let +zeta r:=(↑s.conf.labels.length:Int);let +zeta o:=0;let +zeta n:=(↑(List.length (qAq s.conf).1):Int);let +zeta l:=3;let +zeta ad:=bA a.a l;let +zeta z:=bA a.d l;let +zeta k:=0;let +zeta i:=w64 (ab+(bA a.b ai).1);let +zeta h:=bA a.a ao;let +zeta f:=bA a.kind 16;need (aX a.a ao) (need (qBc s.conf) (need (aX a.b ai) (need (aX a.kind 16) ((br (f.1==k) (ret (inl (true,()))) (ret (inl (f.1==ab,())))).join fun(p:Bool×Unit)=>br p.1 (need (aX a.b r) (need (aX a.c l) (need (aX a.d ak) (need (aX a.d ae) (ret (Ip.mk an h.1 k i [] (Nd.mk h.1 (bA a.b r).1 (bA a.c l).1 (Vec.mk (w64 (ai+(bA a.d ak).1)) (w64 (ai+(bA a.d ae).1))) k k false) dAp [] [] dPn,())))))) ((br (f.1==an) (ret (inl (true,()))) (br (f.1==l) (ret (inl (true,()))) (br (f.1==ai) (ret (inl (true,()))) (ret (inl (f.1==ap,())))))).join fun(w:Bool×Unit)=>br w.1 ((loop (k,(l,h.1,k,i,[],dNd,dAp,[],[],dPn,()),()) fun(s_3:Int×(Int×Int×Int×Int×B×Nd×Ap×List Ak×List Int×Pn×Unit)×Unit) =>let +zeta aj:=s.nodes.getD (Int.toNat s_3.1) dNd;let +zeta aa:=s_3.2.1;let +zeta aw:=aa.2.2;let +zeta g:=aw.2.2;let +zeta a2:=g.2.2;let +zeta q:=a2.2.2;let +zeta ac:=q.1.length.beq q.1.length;br (decide (s_3.1<ag)) ((need (ixB s_3.1 ag) (br (aj.id==h.1) (need (ixB s_3.1 ag) (need (aX a.b ae) (need ac (ret (inl ((aa.1,aa.2.1,w64 (w64 (aj.beat+ab)-w64 (Int.tdiv (bA a.b ae).1 ao)),aw.2.1,g.1,g.2.1,a2.1,a2.2.1,q.1,q.2.1,()),())))))) (need ac (ret (inl ((aa.1,aa.2.1,aw.1,aw.2.1,g.1,g.2.1,a2.1,a2.2.1,q.1,q.2.1,()),())))))).join fun(s_4:(Int×Int×Int×Int×B×Nd×Ap×List Ak×List Int×Pn×Unit)×Unit) =>let +zeta ax:=s_4.1.2.2;let +zeta t:=ax.2.2.2;need (t.2.2.2.1.length.beq t.2.2.2.1.length) (ret (inl (w64 (s_3.1+ab),(s_4.1.1,s_4.1.2.1,ax.1,ax.2.1,ax.2.2.1,t.1,t.2.1,t.2.2.1,t.2.2.2.1,t.2.2.2.2.1,()),())))) (need ac (ret (inr (inl ((aa.1,aa.2.1,aw.1,aw.2.1,g.1,g.2.1,a2.1,a2.2.1,q.1,q.2.1,()),())))))).join fun(s_3:(Int×Int×Int×Int×B×Nd×Ap×List Ak×List Int×Pn×Unit)×Unit) =>let +zeta ay:=s_3.1.2.2;let +zeta u:=ay.2.2.2;need (u.2.2.2.1.length.beq u.2.2.2.1.length) (loop (k,(s_3.1.1,s_3.1.2.1,ay.1,ay.2.1,ay.2.2.1,u.1,u.2.1,u.2.2.1,u.2.2.2.1,u.2.2.2.2.1,()),()) fun(s_4:Int×(Int×Int×Int×Int×B×Nd×Ap×List Ak×List Int×Pn×Unit)×Unit) =>let +zeta a3:=s_4.1;let +zeta af:=s_4.2.1;let +zeta y:=s.conts.getD (Int.toNat a3) dCt;let +zeta m:=af.2.2;let +zeta au:=m.2.2;let +zeta e:=au.2.2;let +zeta am:=e.2.2;let +zeta j:=am.1.length;let +zeta a1:=o+j;let +zeta av:=@bF Int o j am.1++[y.id];let +zeta ar:=a1.ble j&&true&&true;br (decide (a3<ah)) ((need (ixB a3 ah) (br (y.node==h.1) (need (aX (w64 (a.c+a3)) aq) (br ((bA (w64 (a.c+a3)) aq).1==ae) (need (ixB a3 ah) (need (a1.beq j) (need (aT (j+1) 8&&a1.ble j) (need ((j+1).beq av.length) (ret (inl ((af.1,af.2.1,m.1,m.2.1,au.1,au.2.1,e.1,e.2.1,av,am.2.1,()),()))))))) (need (j.beq j) (ret (inl ((af.1,af.2.1,m.1,m.2.1,au.1,au.2.1,e.1,e.2.1,am.1,am.2.1,()),())))))) (need (j.beq j) (ret (inl ((af.1,af.2.1,m.1,m.2.1,au.1,au.2.1,e.1,e.2.1,am.1,am.2.1,()),())))))).join fun(s_5:(Int×Int×Int×Int×B×Nd×Ap×List Ak×List Int×Pn×Unit)×Unit) =>let +zeta az:=s_5.1.2.2;let +zeta v:=az.2.2.2;need (v.2.2.2.1.length.beq v.2.2.2.1.length) (ret (inl (w64 (a3+ab),(s_5.1.1,s_5.1.2.1,az.1,az.2.1,az.2.2.1,v.1,v.2.1,v.2.2.1,v.2.2.2.1,v.2.2.2.2.1,()),())))) (need (a1.ble j&&true) (need ar (need ar (ret (inr (Ip.mk af.1 af.2.1 m.1 m.2.1 au.1 au.2.1 e.1 e.2.1 (@aO Int o a1 am.1) am.2.1,())))))))) ((br (f.1==ao) (ret (inl (true,()))) (ret (inl (f.1==7,())))).join fun(s_3:Bool×Unit)=>br s_3.1 (need (aX a.a al) (need (aX a.b n) (need (ixB (bA a.b n).1 n) (need (aX a.c l) (need (aX a.d l) (need (qAr (w64 (a.d.tdiv l))) (ret (Ip.mk ai h.1 k i [] dNd (Ap.mk (bA a.a al).1 k (List.getD (qAq s.conf).1 (Int.toNat (bA a.b n).1) []) (bA a.c l).1 z.1 (qBd (w64 (a.d.tdiv l))).1 [] k k [] [] [] []) [] [] dPn,())))))))) ((br (f.1==ae) (ret (inl (true,()))) (br (f.1==aq) (ret (inl (true,()))) (ret (inl (f.1==10,()))))).join fun(s_4:Bool×Unit)=>br s_4.1 (need (qBe a s) (ret ((qDB a s).1,()))) (br (f.1==11) (need (aX a.b an) (need (decide (k≤x.1)&&decide (x.1<an)) (need ((o+Int.toNat x.1).blt 2) (need (aX a.a al) (ret (Ip.mk ([ao,7].getD (o+Int.toNat x.1) k) (bA a.a al).1 k i [] dNd dAp [] [] dPn,())))))) ((br (f.1==ak) (ret (inl (true,()))) (ret (inl (f.1==13,())))).join fun(s_5:Bool×Unit)=>br s_5.1 (need (aX a.a ap) (ret (Ip.mk ae h.1 k (w64 (ab+(bA a.a ap).1)) [] dNd dAp [] [] dPn,()))) (br (f.1==14) (need (aX a.d l) (need (decide (k≤z.1)&&decide (z.1<l)) (need ((o+Int.toNat z.1).blt 3) (need (aX a.b r) (need (aX a.c ap) (need (qAr a.d) (need (aX a.c ak) (ret (Ip.mk ([aq,aq,10].getD (o+Int.toNat z.1) k) h.1 k (w64 (ab+(bA a.c ak).1)) [] dNd dAp [] [] (Pn.mk h.1 (bA a.b r).1 (w64 (s.now+(bA a.c ap).1)) (w64 (s.now+al)) (qBd a.d).1),()))))))))) (br (f.1==15) (need (aX a.a l) (need (decide (k≤ad.1)&&decide (ad.1<l)) (need ((o+Int.toNat ad.1).blt 3) (need (qCp a.b [a.c,a.d]) (need (qCc a0.1) (ret (Ip.mk ([11,ab,ab].getD (o+Int.toNat ad.1) k) h.1 k i (qFK a0.1).1 dNd dAp [] [] dPn,()))))))) (ret (Ip.mk k h.1 k i [] dNd dAp [] [] dPn,())))))))))))))

theorem zGA{a:Act}{s:Se}{r:(Ip×Unit)}(h:(qTl a s).G r):qDC a s=true∧qCq a s=r:=bP (wX (a,s,())) (by kernel_rfl) h
def qTm(x:Scr):DT (Se×Unit) :=
 let +zeta g:=(↑x.acts.length:Int);let +zeta e:=lZ x.shape x.ns;let +zeta d:=0;let +zeta a:=Ip.mk 1 d d d (qFK e.1).1 dNd dAp [] [] dPn;let +zeta f:=qCm qD9.1 a;need qGc (need (qCp x.shape x.ns) (need (qCc e.1) (need (qAp qD9.1 a) ((br (f.2.1.err==d) (ret (inl ((f.1,()),()))) (ret (inl ((qD9.1,()),())))).join fun(s:(Se×Unit)×Unit)=>loop (d,(s.1.1,()),()) fun(p:Int×(Se×Unit)×Unit) =>let +zeta c:=p.2.1.1;let +zeta b:=x.acts.getD (Int.toNat p.1) zDJ;br (decide (p.1<g)) (need (ixB p.1 g) (need (qDC b c) (need (qAp c (qCq b c).1) (ret (inl (w64 (p.1+1),((qCm c (qCq b c).1).1,()),())))))) (ret (inr (c,())))))))

theorem zGB{x:Scr}{r:(Se×Unit)}(h:(qTm x).G r):qDD x=true∧qGd x=r:=bP (wX (x,())) (by kernel_rfl) h
end Go.Proofs.YtlmkakccmpncjaaGreatDoor
