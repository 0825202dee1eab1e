/- Part of the proof: texts Qb Qt1 Qs Qj Qc Qh. No conditions. -/
import Derived.Test.YtclpnndkhbnaoaaGreatDoorIa
import Derived.Test.YtclpnndkhbnaoaaGreatDoorKa
import Derived.Test.YtclpnndkhbnaoaaGreatDoorQd
import Derived.Test.YtclpnndkhbnaoaaGreatDoorKb
set_option linter.all false
noncomputable section
namespace Go.Proofs.YtclpnndkhbnaoaaGreatDoor
open Sum
open Go Go.W Go.Proofs
set_option maxRecDepth 100000
def qRO:=ljT [(10,fun st=>[oC st 9 51 false])]
def qRP:=ljT [(2,fun st=>[si 8])]
def qRQ:=ljT [(2,fun st=>[si 8])]
def qRR:=ljT [(5,fun st=>[si 5,si 6]++qC9 st 0 51)]
def qRS:List (Nat×Option (List Kd)):=[(164,none),(163,none),(165,none),(161,none),(199,none),(200,some [.int .i64]),(158,some [.int .i64]),(198,none),(162,none)]
def qRT:FuncId→List VK→Option (Option (List Kd)):=qBB qRS []
def qTf:List (Nat×(Nat→St aC.T→Option (List Ld))):=[(200,qRP),(158,qRQ),(162,qRR)]
def qTg:List (Nat×(Nat→St aC.T→Option (List Ld))):=[(165,qRO)]
def qTh(f:FuncId)(id:Nat)(st:St aC.T):Option (List Ld):=match aQ qTf f with | some L=>L id st | none=>none
def qTi(f:FuncId)(id:Nat)(st:St aC.T):Option (List Ld):=match aQ qTg f with | some L=>L id st | none=>none
def qNF(C:Con aC.T)(cj:FuncId→Option CJK):Nat→ExR aC.T:=exN (hdT aC Tryz.prog C (fun _=>false) 1000 5) cj qRT qTh qTi 8
theorem qDK{C:Con aC.T}{cj:FuncId→Option CJK}(h:jL C cj):oJ (qNF C cj):=vQ (iJ mixed hno h.1 _ _ _) (qF h)
def qQm:T3:=[]
theorem qNG:oK qQm:=gQ
def qNH:Con aC.T:=qE qQm (fun _=>none)
def qNI:FuncId→Option CJK:=cj3 qQm (fun _=>none)
theorem qDL:jL qNH qNI:=eO qNG lZ
def qNJ:=ljT [(8,fun st=>[si 7])]
def qNK:=ljT [(10,fun st=>[si 7])]
def qMc:=uP (qNF qNH qNI) qNJ qNK 116 0 0 [.one (.dat 51),.one (.rcd 51)] [.one (.own 0 51 true),.one (.int .i64)] []
def qA7(l:List Ak)(a:Ak):Bool:=(qMc (l,a,())).isSome
def mH(l:List Ak)(a:Ak):(List Ak×Int×Unit)×Unit:=(qMc (l,a,())).getD (([],(0:Int),()),())
def qMd:TB:=xI aC 0 0 1 [.one (.dat 51),.one (.rcd 51)] [.one (.own 0 51 true),.one (.int .i64)] [] (fun a=>qA7 a.1 a.2.1) (fun a=>mH a.1 a.2.1)
theorem qQn:aN 116 qMd:=rP (qDK qDL) (by kernel_rfl)
def qCU:=uX (qNF qNH qNI) noL noL 115 [.rcd 51,.int .i64] [.int .i64]
def jM(a:Ak)(n:Int):Bool:=(qCU (a,n,())).isSome
def fG(a:Ak)(n:Int):Int×Unit:=(qCU (a,n,())).getD ((0:Int),())
def qCV:TB:=lT aC [.rcd 51,.int .i64] [.int .i64] (fun a=>jM a.1 a.2.1) (fun a=>fG a.1 a.2.1)
theorem qJo:aN 115 qCV:=rXb (qDK qDL) (by kernel_rfl) rfl rfl fun _=>rfl
def qG2:=ljT [(4,fun st=>[si 5])]
def qCW:=uX (qNF qNH qNI) noL qG2 7 [.int .i64,.int .i64] [.int .i64]
def gI(k:Int)(n:Int):Bool:=(qCW (k,n,())).isSome
def fH(k:Int)(n:Int):Int×Unit:=(qCW (k,n,())).getD ((0:Int),())
def qCX:TB:=lT aC [.int .i64,.int .i64] [.int .i64] (fun a=>gI a.1 a.2.1) (fun a=>fH a.1 a.2.1)
theorem qJp:aN 7 qCX:=rXb (qDK qDL) (by kernel_rfl) rfl rfl fun _=>rfl
end Go.Proofs.YtclpnndkhbnaoaaGreatDoor
namespace Go.Proofs.YtclpnndkhbnaoaaGreatDoor
open Sum
open Go Go.W Go.Proofs
open Go.W.DT (ret need br both bad loop join)
set_option maxRecDepth 100000
def qMe(l:List Ak)(a:Ak):DT ((List Ak×Int×Unit)×Unit) :=
 let +zeta bl:=a.label;let +zeta bb:=a.count;let +zeta a9:=a.prio;let +zeta a3:=64;let +zeta y:=1;let +zeta m:=1;let +zeta h:=(↑l.length:Int);let +zeta u:=h.toNat;let +zeta bq:=List.replicate u dAk;let +zeta a5:=u+y;let +zeta g:=0;let +zeta av:=(↑(u-g-g):Int);let +zeta ae:=(↑(u-g):Int);let +zeta f:=0;let +zeta i:=@dK Ak g y ([]++[Ak.mk a9 bl a.size bb a.node a.rack f]);let +zeta d:=(↑u:Int);let +zeta a7:=d+m;let +zeta bo:=w64 a7-f;let +zeta j:=(↑bo.toNat:Int);let +zeta c:=aG bq g (List.take (l.length.min u) l);let +zeta ap:=c.length;let +zeta bi:=dB a5 a3&&(g+u).ble ap;let +zeta an:=aG c (g+u) [Ak.mk a9 bl a.size bb a.node a.rack f];let +zeta x:=@dK Ak g u c++[Ak.mk a9 bl a.size bb a.node a.rack f];need (decide (h≤h)&&decide (h≤9223372036854775807)&&decide ((↑a3:Int)*h≤140737488355328)&&true&&true) (need ((g+u).ble bq.length) ((loop (f,()) fun(s:Int×Unit)=>br (decide (s.1<d)) (need (decide (f≤s.1)&&decide (s.1<d)) (need ((g+Int.toNat s.1).blt ap) (br ((c.getD (g+Int.toNat s.1) dAk).prio==a9) (ret (inr (inl (s.1,())))) (ret (inl (w64 (s.1+m),())))))) (ret (inr (inl ((-1:Int),()))))).join fun(s:Int×Unit)=>br (s.1==(-1:Int)) (br (bb==f) (need (u.ble ap) (ret ((List.take u c,f,()),()))) (br (decide (d≥8)) (ret (([],4,()),())) ((loop (f,()) fun(s:Int×Unit)=>br (decide (s.1<d)) (need (decide (f≤s.1)&&decide (s.1<d)) (need ((g+Int.toNat s.1).blt ap) (br (decide ((c.getD (g+Int.toNat s.1) dAk).prio<a9)) (ret (inl (w64 (s.1+m),()))) (ret (inr (inl (s.1,()))))))) (ret (inr (inl (s.1,()))))).join fun(s:Int×Unit) =>let +zeta bk:=j-s.1;let +zeta ba:=g+Int.toNat s.1+bk.toNat;let +zeta ai:=s.1+m;let +zeta bp:=j-w64 ai;let +zeta a6:=w64 ai;let +zeta ag:=g+Int.toNat s.1;let +zeta ab:=w64 (w64 a7-s.1);let +zeta az:=(s.1-f).toNat+ab.toNat;let +zeta aj:=@dK Ak g (s.1-f).toNat c ++ @dK Ak g ab.toNat (List.replicate ab.toNat dAk);let +zeta q:=aG c (g+a6.toNat) (List.take (bk.toNat.min bp.toNat) (@dK Ak ag bk.toNat c));let +zeta aw:=aG q ag (List.take (Nat.min y bk.toNat) i);need (inB s.1 d d) (br (s.1==d) (br (u.beq g) (need ((g+u).beq ap) (need bi (need (a5.ble x.length) (ret ((List.take a5 x,f,()),()))))) (br (a5.ble u) (need ((g+u+y).ble ap) (need (a5.ble an.length) (ret ((List.take a5 an,f,()),())))) (need bi (need (a5.ble x.length) (ret ((List.take a5 x,f,()),())))))) (br (decide (w64 a7>d)) ((need (decide (f≤s.1)&&decide (s.1≤d)) (need (decide (f<w64 (w64 a7-s.1))&&(u-g).blt az&&dB az a3&&(g+(s.1-f).toNat).ble ap) (need (az.beq aj.length) (ret (inl (aj,())))))).join fun(p:List Ak×Unit) =>let +zeta a0:=p.1.length;let +zeta bm:=(↑(Nat.max g a0):Int);let +zeta ac:=(↑a0:Int);let +zeta aq:=aG p.1 ag (List.take (Nat.min y (ac-s.1).toNat) i);let +zeta t:=aG aq (g+a6.toNat) (List.take ((d-s.1).toNat.min (ac-w64 ai).toNat) (@dK Ak ag (d-s.1).toNat c));need (inB s.1 ac bm) (need ((g+Int.toNat s.1+(ac-s.1).toNat).ble a0) (need (inB a6 ac bm) (need (inB s.1 d d) (need ((g+Int.toNat s.1+(d-s.1).toNat).ble ap) (need ((g+a6.toNat+(ac-w64 ai).toNat).ble aq.length) (need (a0.ble t.length) (ret ((List.take a0 t,f,()),()))))))))) (need (decide (f≤w64 a7)&&decide (w64 a7≤d)) (need (inB a6 j ae) (need (Nat.blt g bp.toNat) (need (inB a6 j ae) (need (inB s.1 j ae) (need (ba.ble ap) (need ((g+a6.toNat+bp.toNat).ble ap) (need (inB s.1 j ae) (need (ba.ble q.length) (need (bo.toNat.ble aw.length) (ret ((List.take bo.toNat aw,f,()),()))))))))))))))))) (loop (s.1,w64 (s.1+m),c,()) fun(p:Int×Int×List Ak×Unit) =>let +zeta a4:=p.1;let +zeta bc:=g+Int.toNat a4;let +zeta ax:=p.2;let +zeta bd:=ax.2.1;let +zeta a8:=g+Int.toNat ax.1;let +zeta r:=a4-f;let +zeta aa:=r.toNat;let +zeta a2:=aa+y;let +zeta ah:=(↑aa:Int);let +zeta e:=ah+m;let +zeta o:=(↑(w64 e-f).toNat:Int);let +zeta b:=aG bd bc (@dK Ak g (d-a4).toNat (List.replicate (d-a4).toNat dAk));let +zeta ar:=b.length;let +zeta bh:=dB a2 a3&&(g+aa).ble ar;let +zeta am:=aG b (g+aa) [Ak.mk a9 bl a.size bb a.node a.rack f];let +zeta v:=@dK Ak g aa b++[Ak.mk a9 bl a.size bb a.node a.rack f];br (decide (ax.1<d)) (need (decide (f≤ax.1)&&decide (ax.1<d)) (need (a8.blt bd.length) (br (!(bd.getD a8 dAk).prio==a9) (need (decide (f≤a4)&&decide (a4<d)) (need (bc.blt bd.length&&true) (ret (inl (w64 (a4+m),w64 (ax.1+m),List.set bd bc (bd.getD a8 dAk),()))))) (ret (inl (a4,w64 (ax.1+m),bd,())))))) (need (inB a4 d d) (need ((g+Int.toNat a4+(d-a4).toNat).ble bd.length&&true&&true&&true) (need (decide (f≤a4)&&decide (a4≤d)) (br (bb==f) (need (aa.ble ar) (ret (inr ((List.take aa b,f,()),())))) (br (decide (ah≥8)) (ret (inr (([],4,()),()))) ((loop (f,()) fun(w:Int×Unit) =>let +zeta bj:=w.1;br (decide (bj<ah)) (need (decide (f≤bj)&&decide (bj<ah)) (need ((g+Int.toNat bj).blt ar) (br (decide ((b.getD (g+Int.toNat bj) dAk).prio<a9)) (ret (inl (w64 (bj+m),()))) (ret (inr (inl (bj,()))))))) (ret (inr (inl (bj,()))))).join fun(w:Int×Unit) =>let +zeta z:=w.1;let +zeta bg:=o-w64 (z+m);let +zeta bf:=w64 (w64 e-z);let +zeta be:=g+Int.toNat z+(o-z).toNat;let +zeta ao:=w64 (z+m);let +zeta al:=g+Int.toNat z;let +zeta ak:=(z-f).toNat+bf.toNat;let +zeta af:=@dK Ak g (z-f).toNat b ++ @dK Ak g bf.toNat (List.replicate bf.toNat dAk);let +zeta k:=aG b (g+ao.toNat) (List.take ((o-z).toNat.min bg.toNat) (@dK Ak al (o-z).toNat b));let +zeta ay:=aG k al (List.take (Nat.min y (o-z).toNat) i);need (inB z ah ae) (br (z==ah) (br ((u-g).beq g) (need ((g+aa).beq ar) (need bh (need (a2.ble v.length) (ret (inr ((List.take a2 v,f,()),())))))) (br (a2.ble (u-g)) (need ((g+aa+y).ble ar) (need (a2.ble am.length) (ret (inr ((List.take a2 am,f,()),()))))) (need bh (need (a2.ble v.length) (ret (inr ((List.take a2 v,f,()),()))))))) (br (decide (w64 e>ae)) ((need (decide (f≤z)&&decide (z≤ae)) (need (decide (f<w64 (w64 e-z))&&(u-g-g).blt ak&&dB ak a3&&(g+(z-f).toNat).ble ar) (need (ak.beq af.length) (ret (inl (af,())))))).join fun(s_3:List Ak×Unit) =>let +zeta a1:=s_3.1.length;let +zeta bn:=(↑(Nat.max g a1):Int);let +zeta ad:=(↑a1:Int);let +zeta au:=aG s_3.1 al (List.take (Nat.min y (ad-z).toNat) i);let +zeta n:=aG au (g+ao.toNat) (List.take ((ah-z).toNat.min (ad-w64 (z+m)).toNat) (@dK Ak al (ah-z).toNat b));need (inB z ad bn) (need ((g+Int.toNat z+(ad-z).toNat).ble a1) (need (inB ao ad bn) (need (inB z ah ae) (need ((g+Int.toNat z+(ah-z).toNat).ble ar) (need ((g+ao.toNat+(ad-w64 (z+m)).toNat).ble au.length) (need (a1.ble n.length) (ret (inr ((List.take a1 n,f,()),())))))))))) (need (decide (f≤w64 e)&&decide (w64 e≤ae)) (need (inB ao o av) (need (Nat.blt g bg.toNat) (need (inB ao o av) (need (inB z o av) (need (be.ble ar) (need ((g+ao.toNat+bg.toNat).ble ar) (need (inB z o av) (need (be.ble k.length) (need ((w64 e-f).toNat.ble ay.length) (ret (inr ((List.take (w64 e-f).toNat ay,f,()),()))))))))))))))))))))))))

theorem qQo{l:List Ak}{a:Ak}{r:((List Ak×Int×Unit)×Unit)}(h:(qMe l a).G r):qA7 l a=true∧mH l a=r:=jK (wX (l,a,())) (by kernel_rfl) h
def qCY(a:Ak)(n:Int):DT (Int×Unit) :=
 let +zeta q:=[]++[a.size.mem,a.size.cores];let +zeta g:=1;let +zeta f:=[]++[a.count];let +zeta e:=(-1:Int);let +zeta d:=0;let +zeta c:=1;let +zeta b:=0;(loop (b,()) fun(s:Int×Unit) =>let +zeta h:=d+Int.toNat s.1;br (decide (s.1<c)) (need (decide (b≤s.1)&&decide (s.1<c)) (need (h.blt g) (br (decide (([]++[a.prio]).getD h b<b)) (ret (inr (inl (s.1,())))) (br (decide (([]++[a.prio]).getD h b>9)) (ret (inr (inl (s.1,())))) (ret (inl (w64 (s.1+c),()))))))) (ret (inr (inl (e,()))))).join fun(s:Int×Unit)=>br (!!decide (s.1≥b)) (ret (c,())) ((loop (b,()) fun(s:Int×Unit) =>let +zeta i:=d+Int.toNat s.1;br (decide (s.1<c)) (need (decide (b≤s.1)&&decide (s.1<c)) (need (i.blt g) (br (decide (([]++[a.label]).getD i b<b)) (ret (inr (inl (s.1,())))) (br (decide (([]++[a.label]).getD i b>w64 (n-c))) (ret (inr (inl (s.1,())))) (ret (inl (w64 (s.1+c),()))))))) (ret (inr (inl (e,()))))).join fun(s:Int×Unit)=>br (!!decide (s.1≥b)) (ret (c,())) ((loop (b,()) fun(s:Int×Unit) =>let +zeta j:=d+Int.toNat s.1;br (decide (s.1<2)) (need (decide (b≤s.1)&&decide (s.1<2)) (need (j.blt 2) (br (decide (q.getD j b<c)) (ret (inr (inl (s.1,())))) (br (decide (q.getD j b>1073741824)) (ret (inr (inl (s.1,())))) (ret (inl (w64 (s.1+c),()))))))) (ret (inr (inl (e,()))))).join fun(s:Int×Unit)=>br (!!decide (s.1≥b)) (ret (c,())) ((loop (b,()) fun(s:Int×Unit) =>let +zeta k:=d+Int.toNat s.1;br (decide (s.1<c)) (need (decide (b≤s.1)&&decide (s.1<c)) (need (k.blt g) (br (decide (([]++[a.node]).getD k b<e)) (ret (inr (inl (s.1,())))) (br (decide (([]++[a.node]).getD k b>999)) (ret (inr (inl (s.1,())))) (ret (inl (w64 (s.1+c),()))))))) (ret (inr (inl (e,()))))).join fun(s:Int×Unit)=>br (!!decide (s.1≥b)) (ret (c,())) ((loop (b,()) fun(s:Int×Unit) =>let +zeta l:=d+Int.toNat s.1;br (decide (s.1<c)) (need (decide (b≤s.1)&&decide (s.1<c)) (need (l.blt g) (br (decide (([]++[a.rack]).getD l b<e)) (ret (inr (inl (s.1,())))) (br (decide (([]++[a.rack]).getD l b>99)) (ret (inr (inl (s.1,())))) (ret (inl (w64 (s.1+c),()))))))) (ret (inr (inl (e,()))))).join fun(s:Int×Unit)=>br (!!decide (s.1≥b)) (ret (c,())) (br (a.node != e) (br (a.rack==e) (ret (c,())) ((loop (b,()) fun(s:Int×Unit) =>let +zeta m:=d+Int.toNat s.1;br (decide (s.1<c)) (need (decide (b≤s.1)&&decide (s.1<c)) (need (m.blt g) (br (decide (f.getD m b<b)) (ret (inr (inl (s.1,())))) (br (decide (f.getD m b>50)) (ret (inr (inl (s.1,())))) (ret (inl (w64 (s.1+c),()))))))) (ret (inr (inl (e,()))))).join fun(s:Int×Unit)=>br (!!decide (s.1≥b)) (ret (4,())) (ret (b,())))) ((loop (b,()) fun(s:Int×Unit) =>let +zeta o:=d+Int.toNat s.1;br (decide (s.1<c)) (need (decide (b≤s.1)&&decide (s.1<c)) (need (o.blt g) (br (decide (f.getD o b<b)) (ret (inr (inl (s.1,())))) (br (decide (f.getD o b>50)) (ret (inr (inl (s.1,())))) (ret (inl (w64 (s.1+c),()))))))) (ret (inr (inl (e,()))))).join fun(s:Int×Unit)=>br (!!decide (s.1≥b)) (ret (4,())) (ret (b,()))))))))

theorem qJq{a:Ak}{n:Int}{r:(Int×Unit)}(h:(qCY a n).G r):jM a n=true∧fG a n=r:=jK (wX (a,n,())) (by kernel_rfl) h
def pG(k:Int)(n:Int):DT (Int×Unit) :=
 need (!decide (n=0)) ((br (decide (k.tmod n<0)) (ret (inl (w64 (k.tmod n+n),()))) (ret (inl (k.tmod n,())))).join fun(s:Int×Unit)=>ret (s.1,()))

theorem uD{k:Int}{n:Int}{r:(Int×Unit)}(h:(pG k n).G r):gI k n=true∧fH k n=r:=jK (wX (k,n,())) (by kernel_rfl) h
end Go.Proofs.YtclpnndkhbnaoaaGreatDoor
namespace Go.Proofs.YtclpnndkhbnaoaaGreatDoor
open Sum
open Go Go.W Go.Proofs
open Go.W.DT (ret need br both bad loop join)
set_option maxRecDepth 100000
def dX(a:Ak):Ak:=⟨a.prio,a.label,a.size,a.count,a.node,a.rack,0⟩
def zM(l:List Ak)(a:Ak):List Ak×Int :=
 if a.count=0 then(l.filter fun x=>!(x.prio==a.prio),0) else if 8≤(l.filter fun x=>!(x.prio==a.prio)).length then([],4)
 else(qIZ (fun x=>decide (x.prio<a.prio)) (dX a) (l.filter fun x=>!(x.prio==a.prio)),0)
section
variable {α:Type}
theorem zN{A B C:List α}{k:Nat}(h:A.length=k):aG (A++B) k C=(A++C)++B.drop C.length:=by subst h;simp[aG]
theorem qNL{l:List α}{d a:α}{k:Nat}(hk:k≤l.length):aG (aG (l.take k++List.replicate (l.length+1-k) d) k [a]) (k+1) (l.drop k)=(l.take k++[a])++l.drop k:=by
 rw[zN (by simp;omega),zN (by simp;omega)]
 simp;omega
theorem qQp{X o:List α}{a:α}{i k:Nat}(hi:i<X.length)(ho:X.take i=o)(hk:k≤i):(aG (aG X (k+1) (o.drop k)) k [a]).take (i+1)=(o.take k++[a])++o.drop k:=by
 have hol:o.length=i:=by rw[←ho];simp;omega
 have h1:aG X (k+1) (o.drop k)=(X.take (k+1)++o.drop k)++(X.drop (k+1)).drop (o.drop k).length:=by
  have: aG (X.take (k+1)++X.drop (k+1)) (k+1) (o.drop k)=_:=zN (by simp;omega)
  rwa [List.take_append_drop] at this
 have h2:X.take (k+1)=o.take k++[X[k]'(by omega)]:=by
  have e:X.take k=o.take k:=by rw[←ho,List.take_take,ql hk]
  rw[List.take_succ_eq_append_getElem (by omega),e]
 rw[h1,h2,gm,gm,zN (by simp;omega)]
 simp only[j5,qm,fe,List.cons_append,oz,List.drop_succ_cons,List.drop_zero]
 rw[←gm,mr (by simp;omega),jh (by simp;omega)]
theorem qQq{X o:List α}{a:α}{i:Nat}(hi:i<X.length)(ho:X.take i=o):(aG X i [a]).take (i+1)=o++[a]:=by
 have hol:o.length=i:=by rw[←ho];simp;omega
 have: aG (X.take i++X.drop i) i [a]=_:=zN (by simp;omega)
 rw[List.take_append_drop] at this
 rw[this,ho,mr (by simp;omega),jh (by simp;omega)]
end
theorem qG3{l:List Ak}{p:Ak→Bool}{k:Nat}(hk:k<l.length)(hp:p (l.getD k dAk)=false):(l.filter p).length<l.length:=by
 rw[List.length_filter_lt_length_iff_exists]
 exact⟨l.getD k dAk,oH hk,by rw[hp];exact Bool.false_ne_true⟩
theorem qQr{l:List Ak}{a:Ak}(h:l.length≤1000000):qA7 l a=true∧mH l a=(((zM l a).1,(zM l a).2,()),()):=qQo (by
 unfold qMe
 have h9:l.length≤1000000000:=by omega
 simp only[ed,qGx,q9,Int.sub_zero,fe,jd]
 refine aF (by simp;omega) (aF (by simp) ?_)
 refine bH (ixK (fun x:Ak=>x.prio==a.prio) l,()) (qHZ l dAk (fun x:Ak=>x.prio==a.prio) (fun i=>(i,())) (fun i=>inl (i,())) (fun k hk=>?_) (aM oI rfl)) ?_
 ·refine bA (lW hk) (aF (ix2 hk) ?_)
  simp only[ed]
  refine aF (eP hk) ?_
  rw[dW hk h9]
  cases (l.getD k dAk).prio==a.prio<;>rfl
 cases hf:l.findIdx? (fun x:Ak=>x.prio==a.prio) with
 | none =>
  have e:ixK (fun x:Ak=>x.prio==a.prio) l = -1:=by simp only[ixK,hf]
  have hfl:(l.filter fun x:Ak=>!(x.prio==a.prio))=l:=by
   rw[qp]
   rw[List.findIdx?_eq_none_iff] at hf
   intro x hx
   simp[hf x hx]
  simp only[e]
  refine bA rfl (qCg (fun hc=>aF (gG _) ?_) fun hc=>qCg (fun h8=>?_) fun h8=>?_)
  ·unfold zM;rw[if_pos (by simpa using hc),hfl];rfl
  ·unfold zM;rw[if_neg (by simpa using hc),hfl,if_pos (by simp at h8;omega)];rfl
  have hs:zM l a=(qIZ (fun x=>decide (x.prio<a.prio)) (dX a) l,0):=by
   unfold zM;rw[if_neg (by simpa using hc),hfl,if_neg (by simp at h8;omega)]
  rw[hs]
  clear hs hf hfl e
  have hkl:=qOu (l:=l) fun x:Ak=>decide (x.prio<a.prio)
  refine bH ((((l.takeWhile fun x:Ak=>decide (x.prio<a.prio)).length:Nat):Int),()) (qOt l dAk (fun i=>(i,())) (fun x:Ak=>decide (x.prio<a.prio)) (fun i=>inl ((i:Int),())) (fun k hk=>?_) ?_) ?_
  ·simp only[lW hk,qFf,eP hk,ed,dW hk h9,gp,zC,xJ,tL,cond_true]
   cases decide ((l.getD k dAk).prio<a.prio)<;>rfl
  ·simp only[oI,zC,tL,cond_false]
  rw[←qHv]
  generalize (l.takeWhile fun x:Ak=>decide (x.prio<a.prio)).length=k at hkl ⊢
  refine aF (by simp[inB];omega) (qCg (fun hkn=>?_) fun hkn=>?_)
  ·have hkn:k=l.length:=by simp at hkn;omega
   subst hkn
   have hend:(ret ((List.take (l.length+1) (@dK Ak 0 l.length l++[dX a]),(0:Int),()),()):DT ((List Ak×Int×Unit)×Unit)).G ((((l.take l.length++[dX a])++l.drop l.length,0).1,((l.take l.length++[dX a])++l.drop l.length,(0:Int)).2,()),()):=by
    have: List.take (l.length+1) (@dK Ak 0 l.length l++[dX a])=(l.take l.length++[dX a])++l.drop l.length:=by
     rw[jh (by simp[dK])];simp[dK]
    rw[this];rfl
   have hl1:(@dK Ak 0 l.length l++[dX a]).length=l.length+1:=by simp[dK]
   refine qCg (fun _=>aF (dF _) (aF ?_ (aF ?_ hend))) fun _=>aM ?_ (aF ?_ (aF ?_ hend))
   ·rw[dM (by omega) (by decide),gG];rfl
   ·show Nat.ble _ (@dK Ak 0 l.length l++[dX a]).length=true
    rw[hl1];exact gG _
   ·cases hb:Nat.ble (l.length+1) l.length with
    | false=>rfl
    | true=>have:= bz hb;omega
   ·rw[dM (by omega) (by decide),gG];rfl
   ·show Nat.ble _ (@dK Ak 0 l.length l++[dX a]).length=true
    rw[hl1];exact gG _
  ·have hkn:k<l.length:=by simp at hkn;omega
   have hw:w64 ((l.length:Int)+1)=((l.length+1:Nat):Int):=qD (by omega) (by omega)
   have hw2:w64 ((k:Int)+1)=((k+1:Nat):Int):=qD (by omega) (by omega)
   have hw3:w64 (((l.length+1:Nat):Int)-(k:Int))=((l.length+1-k:Nat):Int):=by rw[qD (by omega) (by omega)];omega
   have hcr:@dK Ak 0 (l.length+1-k) (List.replicate (l.length+1-k) dAk)=List.replicate (l.length+1-k) dAk:=by simp[dK]
   have hck:@dK Ak 0 k l=l.take k:=by simp[dK]
   have hl1:(l.take k++List.replicate (l.length+1-k) dAk).length=l.length+1:=by simp;omega
   simp only[hw,hw2,hw3,ed,hcr,hck]
   refine bA (by simp;omega) (bH (l.take k++List.replicate (l.length+1-k) dAk,()) (aF (by simp;omega) (aF ?_ (aF ?_ rfl))) ?_)
   ·rw[dM (by omega) (by decide),kG hkl,eP (by omega)];simp;omega
   ·rw[hl1,show k+(l.length+1-k)=l.length+1 by omega];exact dF _
   ·simp only[hl1]
    have e1:(((l.length+1:Nat):Int)-(k:Int)).toNat=l.length+1-k:=by omega
    have e2:(((l.length+1:Nat):Int)-((k+1:Nat):Int)).toNat=l.length-k:=by omega
    have e3:((l.length:Int)-(k:Int)).toNat=l.length-k:=by omega
    have e4:Nat.min 1 (l.length+1-k)=1:=by show min _ _=_;omega
    have e5:(l.length-k).min (l.length-k)=l.length-k:=Nat.min_self _
    have e6:@dK Ak k (l.length-k) l=l.drop k:=jh (by simp)
    have e7:(l.drop k).take (l.length-k)=l.drop k:=jh (by simp)
    have e8:Nat.max 0 (l.length+1)=l.length+1:=Nat.max_eq_right (di _)
    simp only[e1,e2,e3,e4,e5,e6,e7,e8]
    have hn:aG (aG (l.take k++List.replicate (l.length+1-k) dAk) k [dX a]) (k+1) (l.drop k)=(l.take k++[dX a])++l.drop k:=qNL hkl
    have hnl:((l.take k++[dX a])++l.drop k).length=l.length+1:=by simp;omega
    refine aF (by simp[inB];omega) (aF (kG (by omega)) (aF (by simp[inB];omega) (aF (by simp[inB];omega) (aF (kG (by omega)) (aF ?_ (aF ?_ ?_))))))
    ·show Nat.ble _ (aG (l.take k++List.replicate (l.length+1-k) dAk) k [dX a]).length=true
     rw[zN (by simp;omega)]
     exact kG (by simp;omega)
    ·show Nat.ble _ (aG (aG (l.take k++List.replicate (l.length+1-k) dAk) k [dX a]) (k+1) (l.drop k)).length=true
     rw[hn,hnl];exact gG _
    ·show(ret ((List.take (l.length+1) (aG (aG (l.take k++List.replicate (l.length+1-k) dAk) k [dX a]) (k+1) (l.drop k)),(0:Int),()),()):DT ((List Ak×Int×Unit)×Unit)).G _
     rw[hn,jh (Nat.le_of_eq hnl)];rfl
 | some k0 =>
  obtain⟨hk0,hkp⟩:=qLW hf
  have e:ixK (fun x:Ak=>x.prio==a.prio) l=(k0:Int):=by simp only[ixK,hf]
  simp only[e]
  refine aM (by simp) ?_
  rw[dW hk0 h9]
  refine qPY l dAk (fun x:Ak=>x.prio==a.prio) (fun i j l'=>(i,j,l',())) hk0 (hkp dAk).1 (hkp dAk).2 (fun i j l' hij hj hl' hg=>?_) (fun i X hi hX hti=>?_)
  ·simp only[lW hj,qFf,eP hj,hl',ed,gp,aT,qEU,hg]
   cases (l.getD j dAk).prio==a.prio with
   | true =>
    refine aM rfl ?_
    rw[dW hj h9];rfl
   | false =>
    refine bA rfl (aF (by simp;omega) (aF (eP (by omega)) ?_))
    rw[dW hj h9,dW (show i<l.length by omega) h9];rfl
  have hol:(l.filter fun x:Ak=>!(x.prio==a.prio)).length=i:=by rw[←hti];simp;omega
  have hil:i<l.length:=by
   rw[←hol]
   exact qG3 hk0 (by show(!((l.getD k0 dAk).prio==a.prio))=false;rw[(hkp dAk).1];rfl)
  have e1:((l.length:Int)-(i:Int)).toNat=l.length-i:=by omega
  have e2:@dK Ak 0 (l.length-i) (List.replicate (l.length-i) dAk)=List.replicate (l.length-i) dAk:=by simp[dK]
  simp only[ed,e1,e2,hX]
  have hZ:(aG X i (List.replicate (l.length-i) dAk)).length=l.length:=(qDB (by simp;omega)).trans hX
  have hZt:(aG X i (List.replicate (l.length-i) dAk)).take i=l.filter fun x:Ak=>!(x.prio==a.prio):=by
   rw[←hti,aG,mr (by simp;omega),List.take_take,Nat.min_self]
  generalize aG X i (List.replicate (l.length-i) dAk)=Z at hZ hZt
  clear hti hX hf hkp e
  simp only[hZ]
  refine aM oI (aF (by simp[inB];omega) (aF (by simp;omega) (aF (by simp;omega) (qCg (fun hc=>aF (kG hi) ?_) fun hc=>qCg (fun h8=>?_) fun h8=>?_))))
  ·unfold zM;rw[if_pos (by simpa using hc),hZt];rfl
  ·unfold zM;rw[if_neg (by simpa using hc),if_pos (by simp at h8;omega)];rfl
  have hs:zM l a=(qIZ (fun x=>decide (x.prio<a.prio)) (dX a) (l.filter fun x=>!(x.prio==a.prio)),0):=by
   unfold zM;rw[if_neg (by simpa using hc),if_neg (by simp at h8;omega)]
  rw[hs]
  clear hs
  generalize (l.filter fun x:Ak=>!(x.prio==a.prio))=o at hZt hol
  have hkl:=qOu (l:=o) fun x:Ak=>decide (x.prio<a.prio)
  have hg:∀j:Nat,j<i→Z.getD j dAk=o.getD j dAk:=by
   intro j hj
   rw[←hZt]
   simp[List.getD,gy,hj]
  refine bH ((((o.takeWhile fun x:Ak=>decide (x.prio<a.prio)).length:Nat):Int),()) (qOt o dAk (fun i=>(i,())) (fun x:Ak=>decide (x.prio<a.prio)) (fun i=>inl ((i:Int),())) (fun k hk=>?_) ?_) ?_
  ·rw[hol] at hk
   simp only[lW hk,qFf,eP (show k<l.length by omega),ed,dW hk (show i≤1000000000 by omega),gp,zC,xJ,tL,cond_true,hg k hk]
   cases decide ((o.getD k dAk).prio<a.prio)<;>rfl
  ·rw[hol]
   simp only[oI,zC,tL,cond_false]
  rw[←qHv]
  generalize (o.takeWhile fun x:Ak=>decide (x.prio<a.prio)).length=k at hkl ⊢
  rw[hol] at hkl
  have hw:w64 ((i:Int)+1)=((i+1:Nat):Int):=qD (by omega) (by omega)
  have hw2:w64 ((k:Int)+1)=((k+1:Nat):Int):=qD (by omega) (by omega)
  have hz:l.length.beq 0=false:=by
   cases hb:l.length.beq 0 with
   | false=>rfl
   | true=>have:= cz hb;omega
  refine aF (by simp[inB];omega) (qCg (fun hkn=>?_) fun hkn=>?_)
  ·have hkn:k=i:=by simp at hkn;omega
   subst hkn
   have ha:=qQq (a:=dX a) (show k<Z.length by omega) hZt
   have hln:(aG Z k [dX a]).length=l.length:=(qDB (by simp;omega)).trans hZ
   refine aM hz (bA (kG hil) (aF (kG hil) (aF ?_ ?_)))
   ·show Nat.ble _ (aG Z k [dX a]).length=true
    rw[hln];exact kG hil
   ·show(ret (inr ((List.take (k+1) (aG Z k [dX a]),(0:Int),()),())):DT ((Int×Int×List Ak×Unit) ⊕ ((List Ak×Int×Unit)×Unit))).G _
    rw[ha]
    have: (o.take k++[dX a])++o.drop k=o++[dX a]:=by rw[jh (by omega),List.drop_eq_nil_of_le (by omega),jy]
    rw[this];rfl
  ·have hkn:k<i:=by simp at hkn;omega
   have e3:(((i+1:Nat):Int)-(k:Int)).toNat=i+1-k:=by omega
   have e4:(((i+1:Nat):Int)-((k+1:Nat):Int)).toNat=i-k:=by omega
   simp only[hw,hw2,Int.sub_zero,ed,e3,e4]
   refine aM (by simp;omega) ?_
   have e5:Nat.min 1 (i+1-k)=1:=by show min _ _=_;omega
   have e6:List.take ((i+1-k).min (i-k)) (@dK Ak k (i+1-k) Z)=o.drop k:=by
    have: (i+1-k).min (i-k)=i-k:=by show min _ _=_;omega
    rw[this,dK,List.take_take,←hZt,List.drop_take]
    congr 1;omega
   simp only[e5,e6]
   have hin:=qQp (a:=dX a) (show i<Z.length by omega) hZt hkl
   have hl1:(aG Z (k+1) (o.drop k)).length=l.length:=(qDB (by simp;omega)).trans hZ
   have hl2:(aG (aG Z (k+1) (o.drop k)) k [dX a]).length=l.length:=(qDB (by rw[hl1];simp;omega)).trans hl1
   refine aF (by simp;omega) (aF (by simp[inB];omega) (aF (eP (by omega)) (aF (by simp[inB];omega) (aF (by simp[inB];omega) (aF (kG (by omega)) (aF (kG (by omega)) (aF (by simp[inB];omega) (aF (by rw[hl1];exact kG (by omega)) (aF ?_ ?_)))))))))
   ·show Nat.ble _ (aG (aG Z (k+1) (o.drop k)) k [dX a]).length=true
    rw[hl2];exact kG hil
   ·show(ret (inr ((List.take (i+1) (aG (aG Z (k+1) (o.drop k)) k [dX a]),(0:Int),()),())):DT ((Int×Int×List Ak×Unit) ⊕ ((List Ak×Int×Unit)×Unit))).G _
    rw[hin];rfl)
def uJ(a:Ak)(n:Int):Bool:=decide (0≤a.prio)&&decide (a.prio≤9)&&(decide (0≤a.label)&&decide (a.label≤n-1))&&(decide (1≤a.size.mem)&&decide (a.size.mem≤1073741824))&&(decide (1≤a.size.cores)&&decide (a.size.cores≤1073741824))&&(decide (-1≤a.node)&&decide (a.node≤999))&&(decide (-1≤a.rack)&&decide (a.rack≤99))&&!(a.node != -1&&a.rack == -1)
def mI(a:Ak)(n:Int):Int:=bif uJ a n then(bif decide (0≤a.count)&&decide (a.count≤50) then 0 else 4) else 1
theorem zO{ρ:Type}{v lo hi:Int}{body:Int×Unit→DT ((Int×Unit) ⊕ ((Int×Unit) ⊕ ρ))}(hb:∀s,body s=br (decide (s.1<(1:Int))) (need (decide ((0:Int)≤s.1)&&decide (s.1<(1:Int))) (need (((0:Nat)+Int.toNat s.1).blt (1:Nat)) (br (decide (([]++[v]).getD ((0:Nat)+Int.toNat s.1) (0:Int)<lo)) (ret (inr (inl (s.1,())))) (br (decide (([]++[v]).getD ((0:Nat)+Int.toNat s.1) (0:Int)>hi)) (ret (inr (inl (s.1,())))) (ret (inl (w64 (s.1+(1:Int)),()))))))) (ret (inr (inl (-1,()))))) :
  (loop ((0:Int),()) body).G (inl ((bif decide (lo≤v)&&decide (v≤hi) then -1 else 0),())):=by
 by_cases h1:v<lo
 ·refine qFh ?_
  rw[hb]
  refine bA rfl (aF rfl (aF rfl (bA (by simpa using h1) ?_)))
  have: (decide (lo≤v)&&decide (v≤hi))=false:=by simp;omega
  rw[this];rfl
 ·by_cases h2:v>hi
  ·refine qFh ?_
   rw[hb]
   refine bA rfl (aF rfl (aF rfl (aM (by simpa using h1) (bA (by simpa using h2) ?_))))
   have: (decide (lo≤v)&&decide (v≤hi))=false:=by simp;omega
   rw[this];rfl
  ·have: (decide (lo≤v)&&decide (v≤hi))=true:=by simp;omega
   rw[this]
   refine DT.lK.2 ⟨2,.inl (1,()),?_,.inr _,?_,rfl⟩
   ·show(body (0,())).G _
    rw[hb]
    exact bA rfl (aF rfl (aF rfl (aM (by simpa using h1) (aM (by simpa using h2) rfl))))
   ·show(body (1,())).G _
    rw[hb]
    exact aM rfl rfl
theorem qQs{ρ:Type}{v u lo hi:Int}{body:Int×Unit→DT ((Int×Unit) ⊕ ((Int×Unit) ⊕ ρ))}(hb:∀s,body s=br (decide (s.1<(2:Int))) (need (decide ((0:Int)≤s.1)&&decide (s.1<(2:Int))) (need (((0:Nat)+Int.toNat s.1).blt (2:Nat)) (br (decide (([]++[v,u]).getD ((0:Nat)+Int.toNat s.1) (0:Int)<lo)) (ret (inr (inl (s.1,())))) (br (decide (([]++[v,u]).getD ((0:Nat)+Int.toNat s.1) (0:Int)>hi)) (ret (inr (inl (s.1,())))) (ret (inl (w64 (s.1+(1:Int)),()))))))) (ret (inr (inl (-1,()))))) :
  (loop ((0:Int),()) body).G (inl ((bif decide (lo≤v)&&decide (v≤hi) then(bif decide (lo≤u)&&decide (u≤hi) then -1 else 1) else 0),())):=by
 cases c1:(decide (lo≤v)&&decide (v≤hi)) with
 | false =>
  refine qFh ?_
  rw[hb]
  refine bA rfl (aF rfl (aF rfl ?_))
  by_cases h1:v<lo
  ·exact bA (by simpa using h1) rfl
  ·exact aM (by simpa using h1) (bA (by simp at c1 ⊢;show v>hi;omega) rfl)
 | true =>
  simp at c1
  have s1:(body (0,())).G (.inl (1,())):=by
   rw[hb]
   exact bA rfl (aF rfl (aF rfl (aM (by simp;show lo≤v;omega) (aM (by simp;show v≤hi;omega) rfl))))
  cases c2:(decide (lo≤u)&&decide (u≤hi)) with
  | false =>
   refine DT.lK.2 ⟨2,.inl (1,()),s1,.inr _,?_,rfl⟩
   show(body (1,())).G _
   rw[hb]
   refine bA rfl (aF rfl (aF rfl ?_))
   by_cases h1:u<lo
   ·exact bA (by simpa using h1) rfl
   ·exact aM (by simpa using h1) (bA (by simp at c2 ⊢;show u>hi;omega) rfl)
  | true =>
   simp at c2
   refine DT.lK.2 ⟨3,.inl (1,()),s1,.inl (2,()),?_,.inr _,?_,rfl⟩
   ·show(body (1,())).G _
    rw[hb]
    exact bA rfl (aF rfl (aF rfl (aM (by simp;show lo≤u;omega) (aM (by simp;show u≤hi;omega) rfl))))
   ·show(body (2,())).G _
    rw[hb]
    exact aM rfl rfl
theorem qCZ{a:Ak}{n:Int}(h0:0≤n)(hn:n≤1000000000):jM a n=true∧fG a n=(mI a n,()):=qJq (by
 unfold qCY
 rw[show w64 (n-1)=n-1 from qD (by omega) (by omega)]
 have bad:uJ a n=false→(ret ((1:Int),()):DT (Int×Unit)).G (mI a n,()):=fun h=>by unfold mI;rw[h];rfl
 refine bH (_,()) (zO (v:=a.prio) (lo:=0) (hi:=9) fun _=>rfl) ?_
 cases c1:(decide (0≤a.prio)&&decide (a.prio≤9)) with
 | false=>exact bA rfl (bad (by unfold uJ;rw[c1];rfl))
 | true =>
 refine aM rfl (bH (_,()) (zO (v:=a.label) (lo:=0) (hi:=n-1) fun _=>rfl) ?_)
 cases c2:(decide (0≤a.label)&&decide (a.label≤n-1)) with
 | false=>exact bA rfl (bad (by unfold uJ;rw[c1,c2];rfl))
 | true =>
 refine aM rfl (bH (_,()) (qQs (v:=a.size.mem) (u:=a.size.cores) (lo:=1) (hi:=1073741824) fun _=>rfl) ?_)
 cases c3:(decide (1≤a.size.mem)&&decide (a.size.mem≤1073741824)) with
 | false=>exact bA rfl (bad (by unfold uJ;rw[c1,c2,c3];rfl))
 | true =>
 cases c4:(decide (1≤a.size.cores)&&decide (a.size.cores≤1073741824)) with
 | false=>exact bA rfl (bad (by unfold uJ;rw[c1,c2,c3,c4];rfl))
 | true =>
 refine aM rfl (bH (_,()) (zO (v:=a.node) (lo:=-1) (hi:=999) fun _=>rfl) ?_)
 cases c5:(decide (-1≤a.node)&&decide (a.node≤999)) with
 | false=>exact bA rfl (bad (by unfold uJ;rw[c1,c2,c3,c4,c5];rfl))
 | true =>
 refine aM rfl (bH (_,()) (zO (v:=a.rack) (lo:=-1) (hi:=99) fun _=>rfl) ?_)
 cases c6:(decide (-1≤a.rack)&&decide (a.rack≤99)) with
 | false=>exact bA rfl (bad (by unfold uJ;rw[c1,c2,c3,c4,c5,c6];rfl))
 | true =>
 refine aM rfl ?_
 have fin:uJ a n=true→∀(b:Bool),b=(decide (0≤a.count)&&decide (a.count≤50))→(br (!!decide ((bif b then(-1:Int) else 0)≥0)) (ret ((4:Int),())) (ret ((0:Int),())):DT (Int×Unit)).G (mI a n,()):=by
  intro h b hb
  subst hb
  unfold mI
  rw[h]
  cases (decide (0≤a.count)&&decide (a.count≤50))<;>rfl
 cases c7:(a.node != -1) with
 | true =>
  refine bA rfl ?_
  cases c8:(a.rack == -1) with
  | true=>exact bA rfl (bad (by unfold uJ;rw[c1,c2,c3,c4,c5,c6,c7,c8];rfl))
  | false=>exact aM rfl (bH (_,()) (zO (v:=a.count) (lo:=0) (hi:=50) fun _=>rfl) (fin (by unfold uJ;rw[c1,c2,c3,c4,c5,c6,c7,c8];rfl) _ rfl))
 | false=>exact aM rfl (bH (_,()) (zO (v:=a.count) (lo:=0) (hi:=50) fun _=>rfl) (fin (by unfold uJ;rw[c1,c2,c3,c4,c5,c6,c7];rfl) _ rfl)))
end Go.Proofs.YtclpnndkhbnaoaaGreatDoor
namespace Go.Proofs.YtclpnndkhbnaoaaGreatDoor
open Sum
end Go.Proofs.YtclpnndkhbnaoaaGreatDoor
namespace Go.Proofs.YtclpnndkhbnaoaaGreatDoor
open Sum
open Go Go.W Go.Proofs
set_option maxRecDepth 100000
def hAk:List Nat:=[0,0,0,0,0,0,0,1000000+51,0,0,3,3,3,3]
theorem qRU{α:Type}{b:Bool}{x y:Out α}{Q:α→Prop}:(Out.br b x y).K Q↔(b=true→x.K Q)∧(b=false→y.K Q):=dY _ _ _
def splitV(k:IntKind)(m:Int)(h:Hp aC.T)(last:Int):List Int→Out (VK×Hp aC.T)
 | []=>.need (decide (m=last)) (.ret (.d (.int k last),h))
 | c::cs=>.br (decide (m=c)) (.ret (.d (.int k c),h)) (splitV k m h last cs)
theorem qFo{k:IntKind}{m:Int}{h:Hp aC.T}{last:Int}{Q:VK×Hp aC.T→Prop}:∀{cs:List Int},(splitV k m h last cs).K Q→Q (.d (.int k m),h)
 | [],hK=>by
  obtain⟨h1,h2⟩:=Out.aO.1 hK
  have e:m=last:=by simpa using h1
  rw[e];exact h2
 | c::cs,hK=>by
  obtain⟨h1,h2⟩:=qRU.1 hK
  by_cases e:m=c
  ·have:= h1 (by simpa using e)
   rw[e];exact this
  ·exact qFo (h2 (by simpa using e))
def qQt(args:List VK)(q:VK×Hp aC.T):Out (VK×Hp aC.T):=match args,q with
 | [_,.d (.int _ n)],(.d (.int k m),h)=>.br (decide (n=10)) (splitV k m h 9 [0,1,2,3,4,5,6,7,8]) (.ret (.d (.int k m),h))
 | _,q=>.ret q
theorem qQu{args:List VK}{q:VK×Hp aC.T}{Q:VK×Hp aC.T→Prop}(hK:(qQt args q).K Q):Q q:=by
 unfold qQt at hK
 split at hK
 ·rename_i n k m h
  obtain⟨h1,h2⟩:=qRU.1 hK
  by_cases e:n=10
  ·exact qFo (h1 (by simpa using e))
  ·exact h2 (by simpa using e)
 ·exact hK
def qQv(S:TB):TB:=fun args h=>(S args h).bind fun q=>qQt args q
theorem qNM{f:FuncId}{S:TB}(hS:aN f S):aN f (qQv S):=by
 intro args h Q hq
 simp only[qQv,Out.aU] at hq
 have: (S args h).K Q:=by
  rw[Out.bP] at hq ⊢
  obtain⟨q,h1,h2⟩:=hq
  exact⟨q,h1,qQu h2⟩
 exact hS args h Q this
def qBS:TB:=qQv qCX
theorem qG4:aN 7 qBS:=qNM qJp
def qRV:=ljT [(13,fun st=>[si 78]++qLl st 3 hAk)]
def qRW:=ljT [(2,fun st=>[.ptr 3 st.hp.nx (apX (Nat.add st.hp.nx 1)),.slot 4 .bool]),(22,fun st=>qC8 st 3 qMU++qLm st 3)]
def qRX:=ljT [(3,fun st=>[oC st 5 80 false,si 12]),(6,fun st=>[oC st 5 80 false,si 22])]
def qRY:=ljT [(10,fun st=>[oC st 5 80 false]),(11,fun st=>[oC st 5 80 false])]
def qRZ:List (Nat×Option (List Kd)):=[(6,none),(8,none),(51,none),(13,none),(45,none),(113,none),(114,none),(117,none),(71,none),(35,none),(93,none),(92,none),(91,none),(143,none)]
def qSa:FuncId→List VK→Option (Option (List Kd)):=qBB qRZ []
def qTj:List (Nat×(Nat→St aC.T→Option (List Ld))):=[(45,qRV),(113,qRX)]
def qTk:List (Nat×(Nat→St aC.T→Option (List Ld))):=[(45,qRW),(113,qRY)]
def qTl(f:FuncId)(id:Nat)(st:St aC.T):Option (List Ld):=match aQ qTj f with | some L=>L id st | none=>none
def qTm(f:FuncId)(id:Nat)(st:St aC.T):Option (List Ld):=match aQ qTk f with | some L=>L id st | none=>none
def qSb(C:Con aC.T)(cj:FuncId→Option CJK):Nat→ExR aC.T:=exN (hdT aC Tryz.prog C (fun _=>false) 1000 5) cj qSa qTl qTm 10
theorem qNN{C:Con aC.T}{cj:FuncId→Option CJK}(h:jL C cj):oJ (qSb C cj):=vQ (iJ mixed hno h.1 _ _ _) (qF h)
def qQw:T3:=[(4,qCT,none),(7,qBS,none),(5,qFn,none),(142,kZ,none),(12,qA6,none),(118,qGt,none),(115,qCV,none),(116,qMd,none),(10,qDE,none),(9,xK,none),(104,mE,none)]
theorem qNO:oK qQw:=aD qJl aY (aD qG4 aY (aD qMb aY (aD oW aY (aD qDJ aY (aD qL7 aY (aD qJo aY (aD qQn aY (aD qHN aY (aD qKV aY (aD qI aY (gQ)))))))))))
def qSc:Con aC.T:=qE qQw (fun _=>none)
def qSd:FuncId→Option CJK:=cj3 qQw (fun _=>none)
theorem qNP:jL qSc qSd:=eO qNO lZ
def qFp:=ljT [(12,fun st=>[oC st 9 51 false,si 11]++qC8 st 10 [.int .i64,.int .i64,.int .i64,.int .i64,.int .i64,.int .i64,.int .i64,.int .i64,.int .i64,.int .i64])]
def qFq:=ljT [(18,fun st=>[oC st 9 51 false]++qC8 st 10 [.int .i64,.int .i64,.int .i64,.int .i64,.int .i64,.int .i64,.int .i64,.int .i64,.int .i64,.int .i64]),(19,fun st=>[.ptr 13 st.hp.nx [.dat 9,.dat 67,.dat 41,.dat 44,.dat 80,.dat 83,.dat 46,.int .i64,.int .i64,.int .i64],.ptr 14 (Nat.add st.hp.nx 1) [.int .i64,.dat 80,.dat 3,.dat 3,.int .i64]]),(20,fun st=>[.ptr 15 st.hp.nx qMU,.slot 16 .bool]),(23,fun st=>[si 17]),(28,fun st=>[si 17]),(33,fun st=>[si 19]),(35,fun st=>[.ptr 20 st.hp.nx [.dat 9,.dat 67,.dat 41,.dat 44,.dat 80,.dat 83,.dat 46,.int .i64,.int .i64,.int .i64],.ptr 21 (Nat.add st.hp.nx 1) [.int .i64,.dat 80,.dat 3,.dat 3,.int .i64]])]
def yA:=uX (qSb qSc qSd) qFp qFq 3 [.dat 51,.int .i64] [.bool]
def qFr(l:List Ak)(kk:Int):Bool:=(yA (l,kk,())).isSome
def qDM(l:List Ak)(kk:Int):Bool×Unit:=(yA (l,kk,())).getD (false,())
end Go.Proofs.YtclpnndkhbnaoaaGreatDoor
namespace Go.Proofs.YtclpnndkhbnaoaaGreatDoor
open Sum
open Go Go.W Go.Proofs
open Go.W.DT (ret need br both bad loop join)
set_option maxRecDepth 100000
def qDN(p c:Int):Ak:=⟨p,0,⟨1,1⟩,c,-1,-1,0⟩
def kH(f:Int→Int)(p:Int):Option Ak:=if 0<f p then some (qDN p (f p)) else none
def dN(f:Int→Int)(P:List Int):List Ak:=P.filterMap (kH f)
def yB(f:Int→Int)(p c:Int):Int→Int:=fun q=>if q=p then c else f q
theorem qDa{f:Int→Int}{p:Int}{a:Ak}(h:kH f p=some a):a.prio=p:=by
 unfold kH at h
 split at h
 ·cases h;rfl
 ·cases h
theorem qBT{f:Int→Int}{P:List Int}{a:Ak}(h:a∈dN f P):a.prio∈P:=by
 obtain⟨p,hp,h⟩:=List.mem_filterMap.1 h
 rw[qDa h];exact hp
theorem qFs{f:Int→Int}{P Q:List Int}:dN f (P++Q)=dN f P++dN f Q:=List.filterMap_append
theorem jN{f:Int→Int}{p:Int}{P:List Int}:dN f (p::P)=(match kH f p with | some a=>[a] | none=>[])++dN f P:=by
 unfold dN
 rw[qw]
 cases kH f p<;>rfl
theorem yC{f:Int→Int}{p c:Int}:∀{P:List Int},p ∉ P→dN (yB f p c) P=dN f P
 | [],_=>rfl
 | q::P,h=>by
  have h1:q≠p:=fun e=>h (e▸List.mem_cons_self)
  have e:kH (yB f p c) q=kH f q:=by simp only[kH,yB,if_neg h1]
  rw[jN,jN,e,yC fun h2=>h (jg _ h2)]
theorem qQx{α:Type}{p:α→Bool}{X Y:List α}(h:∀x∈X,p x=true)(hy:∀y∈Y,p y=false):(X++Y).takeWhile p=X∧(X++Y).dropWhile p=Y:=by
 induction X with
 | nil =>
  cases Y with
  | nil=>exact⟨rfl,rfl⟩
  | cons y Y=>simp[mi,List.dropWhile_cons,hy y (by simp)]
 | cons x X ih =>
  obtain⟨h1,h2⟩:=ih fun x hx=>h x (by simp[hx])
  simp only[List.cons_append,mi,List.dropWhile_cons,h x (by simp),if_true,h1,h2,and_self]
theorem qMf{f:Int→Int}{a:Ak}{A B:List Int}{P:List Int}(hP:P=A++a.prio::B)(hA:∀x∈A,x<a.prio)(hB:∀x∈B,a.prio<x)(hc:0≤a.count)(hz:dX a=qDN a.prio a.count)
  (h8:(dN f P).length<8):zM (dN f P) a=(dN (yB f a.prio a.count) P,0):=by
 have nA:a.prio ∉ A:=fun h=>by have:= hA _ h;omega
 have nB:a.prio ∉ B:=fun h=>by have:= hB _ h;omega
 have e1:(dN f P).filter (fun x=>!(x.prio==a.prio))=dN f A++dN f B:=by
  subst hP
  rw[qFs,jN,ng,ng]
  have k:∀{Q:List Int},a.prio ∉ Q→(dN f Q).filter (fun x=>!(x.prio==a.prio))=dN f Q:=by
   intro Q hQ
   rw[qp]
   intro x hx
   have: x.prio≠a.prio:=fun e=>hQ (e▸qBT hx)
   simp[this]
  rw[k nA,k nB]
  congr 1
  cases ho:kH f a.prio with
  | none=>rfl
  | some b=>simp[qDa ho]
 have e2:dN (yB f a.prio a.count) P=dN f A++((if 0<a.count then[dX a] else[])++dN f B):=by
  subst hP
  rw[qFs,jN,yC nA,yC nB]
  congr 2
  simp only[kH,yB,if_true]
  split
  ·rename_i h;split at h
   ·cases h;rw[if_pos (by assumption),hz]
   ·cases h
  ·rename_i h;split at h
   ·cases h
   ·rw[if_neg (by assumption)]
 unfold zM
 rw[e1,e2]
 have hl:(dN f A++dN f B).length<8:=by
  rw[←e1]
  exact Nat.lt_of_le_of_lt (l6 _ _) h8
 by_cases h0:a.count=0
 ·rw[if_pos h0,if_neg (by omega)];rfl
 ·rw[if_neg h0,if_neg (by omega),if_pos (by omega)]
  obtain⟨t1,t2⟩:=qQx (p:=fun x:Ak=>decide (x.prio<a.prio)) (X:=dN f A) (Y:=dN f B) (fun x hx=>by simpa using hA _ (qBT hx)) (fun x hx=>by have:= hB _ (qBT hx);simp;omega)
  unfold qIZ
  rw[t1,t2]
  simp
theorem yD{f:Int→Int}{p c:Int}:∀{P:List Int},P.Nodup→(dN (yB f p c) P).length≤(dN f P).length+1
 | [],_=>by simp[dN]
 | q::P,h=>by
  obtain⟨h1,h2⟩:=List.nodup_cons.1 h
  rw[jN,jN,ji,ji]
  have hle:∀g:Int→Int,(match kH g q with | some a=>[a] | none=>[]).length≤1:=by
   intro g;cases kH g q<;>simp
  by_cases e:q=p
  ·subst e
   rw[yC h1]
   have:= hle (yB f q c)
   omega
  ·have: kH (yB f p c) q=kH f q:=by simp only[kH,yB,if_neg e]
   rw[this]
   have:= yD (f:=f) (p:=p) (c:=c) h2
   omega
def P10:List Int:=[0,1,2,3,4,5,6,7,8,9]
def yE(p c m:Int):Ak:=⟨p,0,⟨1,1⟩,c,-1,-1,m⟩
theorem qMg{f:Int→Int}{p:Nat}{c m:Int}(hp:p<10)(hc:0≤c)(h8:(dN f P10).length<8):zM (dN f P10) (yE p c m)=(dN (yB f p c) P10,0):=by
 have key:∃A B:List Int,P10=A++(p:Int)::B∧(∀x∈A,x<(p:Int))∧∀x∈B,(p:Int)<x:=by
  match p,hp with
  | 0,_=>exact⟨[],[1,2,3,4,5,6,7,8,9],rfl,by simp,by simp⟩
  | 1,_=>exact⟨[0],[2,3,4,5,6,7,8,9],rfl,by simp,by simp⟩
  | 2,_=>exact⟨[0,1],[3,4,5,6,7,8,9],rfl,by simp,by simp⟩
  | 3,_=>exact⟨[0,1,2],[4,5,6,7,8,9],rfl,by simp,by simp⟩
  | 4,_=>exact⟨[0,1,2,3],[5,6,7,8,9],rfl,by simp,by simp⟩
  | 5,_=>exact⟨[0,1,2,3,4],[6,7,8,9],rfl,by simp,by simp⟩
  | 6,_=>exact⟨[0,1,2,3,4,5],[7,8,9],rfl,by simp,by simp⟩
  | 7,_=>exact⟨[0,1,2,3,4,5,6],[8,9],rfl,by simp,by simp⟩
  | 8,_=>exact⟨[0,1,2,3,4,5,6,7],[9],rfl,by simp,by simp⟩
  | 9,_=>exact⟨[0,1,2,3,4,5,6,7,8],[],rfl,by simp,by simp⟩
 obtain⟨A,B,h1,h2,h3⟩:=key
 exact qMf (a:=yE p c m) h1 h2 h3 hc rfl h8
theorem qMh{p:Nat}{c m:Int}(hp:p<10)(hc:0≤c)(hc2:c≤50):mI (yE p c m) 1=0:=by
 have h1:decide ((0:Int)≤(p:Int))=true:=by simp
 have h2:decide ((p:Int)≤9)=true:=by simp;omega
 have: uJ (yE p c m) 1=true:=by
  unfold uJ
  show(decide ((0:Int)≤(p:Int))&&decide ((p:Int)≤9)&&_&&_&&_&&_&&_&&_)=true
  rw[h1,h2];rfl
 unfold mI
 rw[this]
 simp[yE,hc,hc2]
end Go.Proofs.YtclpnndkhbnaoaaGreatDoor
