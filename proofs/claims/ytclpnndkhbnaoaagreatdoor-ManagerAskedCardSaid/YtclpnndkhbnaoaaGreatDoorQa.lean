/- Part of the proof: texts Qw Qwt1 Qx Qz Qa Qd. No conditions. -/
import Derived.Test.YtclpnndkhbnaoaaGreatDoorIa
import Derived.Test.YtclpnndkhbnaoaaGreatDoorKa
set_option linter.all false
noncomputable section
namespace Go.Proofs.YtclpnndkhbnaoaaGreatDoor
open Go Go.W Go.Proofs
set_option maxRecDepth 100000
def qR5:List (Nat×Option (List Kd)):=[]
def qR6:FuncId→List VK→Option (Option (List Kd)):=qBB qR5 []
def qSR:List (Nat×(Nat→St aC.T→Option (List Ld))):=[]
def qSS:List (Nat×(Nat→St aC.T→Option (List Ld))):=[]
def qST(f:FuncId)(id:Nat)(st:St aC.T):Option (List Ld):=match aQ qSR f with | some L=>L id st | none=>none
def qSU(f:FuncId)(id:Nat)(st:St aC.T):Option (List Ld):=match aQ qSS f with | some L=>L id st | none=>none
def qQc(C:Con aC.T)(cj:FuncId→Option CJK):Nat→ExR aC.T:=exN (hdT aC Tryz.prog C (fun _=>false) 1000 5) cj qR6 qST qSU 8
theorem qIa{C:Con aC.T}{cj:FuncId→Option CJK}(h:jL C cj):oJ (qQc C cj):=vQ (iJ mixed hno h.1 _ _ _) (qF h)
def qQd:T3:=[(86,oN,none),(87,oO,none),(88,oP,none),(89,oQ,none),(90,oU,none),(84,oV,none),(142,kZ,none),(85,oZ,none),(83,mD,none)]
theorem qN2:oK qQd:=aD tN aY (aD tO aY (aD tQ aY (aD tT aY (aD tV aY (aD tX aY (aD oW aY (aD tY aY (aD qH aY (gQ)))))))))
def qQe:Con aC.T:=qE qQd (fun _=>none)
def qQf:FuncId→Option CJK:=cj3 qQd (fun _=>none)
theorem qIb:jL qQe qQf:=eO qN2 lZ
def qIc:=uX (qQc qQe qQf) noL noL 154 [.dat 3] [.dat 3]
def kD(l:List Int):Bool:=(qIc (l,())).isSome
def nD(l:List Int):(List Int)×Unit:=(qIc (l,())).getD ([],())
def qId:TB:=fzR (con [.dat 3] [.dat 3] (fun a=>kD a.1) (fun a=>nD a.1) rfl)
theorem qN3:aN 154 qId:=rX (qIa qIb) (by kernel_rfl) rfl rfl
def qQg:T3:=[(154,qId,some (jX [.dat 3] [.dat 3] (fun a=>kD a.1) (fun a=>nD a.1)))]
theorem qN4:oK qQg:=aD qN3 (jW (qGo rfl)) (gQ)
def qR7:Con aC.T:=qE qQg qQe
def qR8:FuncId→Option CJK:=cj3 qQg qQf
theorem qN5:jL qR7 qR8:=eO qN4 qIb
def qFj:=ljT [(3,fun st=>[si 23]++qC9 st 21 67),(10,fun st=>[si 61]++qC9 st 59 44)]
def qFk:=ljT [(13,fun st=>qC8 st 6 qMU++qLm st 6)]
def qDH:=uO (qQc qR7 qR8) qFj qFk 97 [.rcd 36] [stA]
def qFl(s:Se):Bool:=(qDH (s,())).isSome
def qIe(s:Se):StT×Unit:=(qDH (s,())).getD (stD,())
end Go.Proofs.YtclpnndkhbnaoaaGreatDoor
namespace Go.Proofs.YtclpnndkhbnaoaaGreatDoor
open Go Go.W Go.Proofs
open Go.W.DT (ret need br both bad loop join)
set_option maxRecDepth 100000
def qIf(l:List Int):DT (List Int×Unit) :=
 let +zeta a:=(↑l.length:Int);let +zeta d:=List.replicate a.toNat (0  : Int);let +zeta c:=0+a.toNat;let +zeta b:=aG d 0 (List.take (l.length.min a.toNat) l);need (decide (a≤a)&&decide (a≤9223372036854775807)&&decide ((↑8:Int)*a≤140737488355328)&&true&&true) (need (c.ble d.length) (need (c.ble b.length) (ret (@eH Int 0 c b,()))))

theorem qN6{l:List Int}{r:(List Int×Unit)}(h:(qIf l).G r):kD l=true∧nD l=r:=jK (wX (l,())) (by kernel_rfl) h
def qIg(s:Se):DT ( ((List (B)×List Qu×List Nd×List Ap×List Ct×List Sl×List Pn×Int×Int×Int×Unit)×Unit)) :=
 let +zeta v:=0;let +zeta u:=s.plans.length;let +zeta t:=s.slots.length;let +zeta r:=s.conts.length;let +zeta q:=s.nodes.length;let +zeta k:=s.apps.length;let +zeta f:=s.conf.labels;let +zeta c:=s.conf.queues.length;let +zeta b:=0;need (dB f.length 16) (need (dB c 48) (loop (v,s.conf.queues,()) fun(p:Int×List Qu×Unit) =>let +zeta y:=p.2.1;let +zeta j:=y.length;let +zeta n:=(b+c).ble j&&true&&true;let +zeta i:=decide (v≤p.1)&&decide (p.1<(↑c:Int));let +zeta e:=b+Int.toNat p.1;br (decide (p.1<(↑c:Int))) (need i (need (e.blt j) (need (dB (y.getD e dQu).caps.length 16) (need i (need (e.blt j&&true) (ret (Sum.inl (w64 (p.1+1),List.set y e (y.getD e dQu),())))))))) (need (dB q 64) (need (dB r 72) (need (dB t 24) (need (dB u 48) (need (dB k 200) (loop (v,s.apps,()) fun(w:Int×List Ap×Unit) =>let +zeta o:=w.2.1;let +zeta h:=b+Int.toNat w.1;let +zeta g:=decide (v≤w.1)&&decide (w.1<(↑k:Int));let +zeta a:=o.getD h dAp;let +zeta l:=a.asks.length;br (decide (w.1<(↑k:Int))) (need g (need (h.blt o.length) ((need (dB l 64) (need (kD a.grants) ((ret (Sum.inl (nD a.grants))).join fun(z:List Int×Unit)=>need (kD a.kills) ((ret (Sum.inl (nD a.kills))).join fun(s_4:List Int×Unit)=>need (kD a.told) ((ret (Sum.inl (nD a.told))).join fun(s_5:List Int×Unit)=>need (kD a.lost) ((ret (Sum.inl (nD a.lost))).join fun(s_6:List Int×Unit)=>need ((b+l).ble l&&true&&true) (ret (Sum.inl ((a.id,a.state,a.queue,a.user,a.prio,a.master.mem,a.master.cores,@eH Ak b (b+l) a.asks,a.seen,a.beat,z.1,s_4.1,s_5.1,s_6.1,()),()))))))))).join fun(z:(Int×Int×B×Int×Int×Int×Int×List Ak×Int×Int×List Int×List Int×List Int×List Int×Unit)×Unit) =>let +zeta m:=z.1.2.2;let +zeta d:=m.2.2.2.2;let +zeta x:=d.2.2.2.2;need g (need (h.blt o.length&&true) (ret (Sum.inl (w64 (w.1+1),List.set o h (Ap.mk z.1.1 z.1.2.1 m.1 m.2.1 m.2.2.1 (Vec.mk m.2.2.2.1 d.1) d.2.1 d.2.2.1 d.2.2.2.1 x.1 x.2.1 x.2.2.1 x.2.2.2.1),()))))))) (need ((0+f.length).ble f.length&&true) (need (nl f) (need (nl f) (need ((b+c).ble j&&true) (need n (need n (need (q.beq q&&(k.beq o.length&&(r.beq r&&(t.beq t&&u.beq u)))) (ret (Sum.inr (Sum.inr ((@eH (B) b (b+f.length) f,@eH Qu b (b+c) y,s.nodes,o,s.conts,s.slots,s.plans,s.now,s.epoch,s.seq,()),())))))))))))))))))))

theorem qN7{s:Se}{r :  ((List (List UInt8)×List Qu×List Nd×List Ap×List Ct×List Sl×List Pn×Int×Int×Int×Unit)×Unit)}(h:(qIg s).G r):qFl s=true∧qIe s=r:=jK (wX (s,())) (by kernel_rfl) h
end Go.Proofs.YtclpnndkhbnaoaaGreatDoor
namespace Go.Proofs.YtclpnndkhbnaoaaGreatDoor
open Go Go.W Go.Proofs
open Go.W.DT (ret need br both bad loop join)
set_option maxRecDepth 100000
theorem qA5{l:List Int}(h:l.length≤1000000000):kD l=true∧nD l=(l,()):=qN6 (by
 unfold qIf
 simp only[ed,qGx,sI,List.length_replicate,vV,aT,gp]
 exact aF (by simp;omega) rfl)
theorem qN8{s:Se}(h:rY s):qFl s=true∧qIe s=(stT s,()):=qN7 (by
 unfold qIg
 have f1:=dM h.labels (show 16≤100000 by decide)
 have f2:=dM h.queues (show 48≤100000 by decide)
 have f3:=dM h.nodes (show 64≤100000 by decide)
 have f4:=dM h.conts (show 72≤100000 by decide)
 have f5:=dM h.slots (show 24≤100000 by decide)
 have f6:=dM h.plans (show 48≤100000 by decide)
 have f7:=dM h.apps (show 200≤100000 by decide)
 simp only[f1,f2,f3,f4,f5,f6,f7,oL,oM,qG,aT,dF,vV,sI,gp,oq]
 refine qA1 s.conf.queues dQu (fun i (_:Unit)=>(i,s.conf.queues,())) (fun _ _=>()) (fun _=>(stT s,())) (fun _ _=>True) (fun i b hi _=>⟨trivial,?_⟩) (fun b _=>?_) (b0:=()) trivial
 ·have hq:=(h.qu _ (oH (d:=dQu) hi)).1
  simp only[lW hi,qFf,eP hi,dM hq (show 16≤100000 by decide),ed,fe,qDF,qHX hi h.queues,gp,aT,qEU]
  first | done | rfl
 ·simp only[oI]
  refine aM rfl ?_
  refine qA1 s.apps dAp (fun i (_:Unit)=>(i,s.apps,())) (fun _ _=>()) (fun _=>Sum.inr (stT s,())) (fun _ _=>True) (fun i b hi _=>⟨trivial,?_⟩) (fun b _=>?_) (b0:=()) trivial
  ·have ha:=h.app _ (oH (d:=dAp) hi)
   simp only[lW hi,qFf,eP hi,ed,fe,gp,aT,qEU]
   refine bH (apT (s.apps.getD i dAp),()) ?_ ?_
   ·have q1:=qA5 ha.grants
    have q2:=qA5 ha.kills
    have q3:=qA5 ha.told
    have q4:=qA5 ha.lost
    simp only[dM ha.asks (show 64≤100000 by decide),q1.1,q2.1,q3.1,q4.1,q1.2,q2.2,q3.2,q4.2,mV,aT,gG,sI,qD8,gp]
    rfl
   ·simp only[lW hi,qFf,eP hi,ed,fe,gp,aT,qHX hi h.apps]
    show(ret (Sum.inl (((i+1:Nat):Int),s.apps.set i (s.apps.getD i dAp),()))).G _
    rw[qDF];rfl
  ·simp only[oI]
   refine aM rfl ?_
   simp only[oL,oM,qG,vV,sI,dF,gp,aT]
   rfl)
end Go.Proofs.YtclpnndkhbnaoaaGreatDoor
namespace Go.Proofs.YtclpnndkhbnaoaaGreatDoor
open Go Go.W Go.Proofs
set_option maxRecDepth 100000
theorem qDI{ex:Nat→ExR aC.T}(hex:oJ ex){L J:Nat→St aC.T→Option (List Ld)}{f:Nat}(ht:(match Tryz.prog.funcs[f]? with | some fn=>!fn.body.isNone | none=>false)=true){ka:List Kd}{kr:List Ans}(hk:ka.all bK=true)(hne:kr≠[])(hly:∀x,qCe aC kr x=true)(d:Ko kr){u:Ka ka→Option (Ko kr)}
  (hu:u=hide fun a=>(mW ex L J f ka kr a).val) {pre:Ka ka→Bool} {M:Ka ka→Ko kr} (h:∀a,pre a=true→(u a).isSome=true∧(u a).getD d=M a):aN f (fzR (mJ ka kr pre M hk)) :=
 iF (Spec.gN (lY hex ht hne hly (fun a ha=>(h a ha).2▸zG hu d a (h a ha).1)) (iE ka kr _ _ hk) fun _=>di _)
def qGz:TB:=fzR (mJ [.rcd 36] [stA] (fun a=>iO a.1) (fun a=>(stT a.1,())) rfl)
theorem qLY:aN 32 qGz:=qDI (bL qDC) (L:=qHB) (J:=noL) (ka:=[.rcd 36]) (kr:=[stA]) (by kernel_rfl) rfl (by simp) (fun _=>by kernel_rfl) ((stD,()):StT×Unit) (u:=qGr) rfl fun a ha=>by
 obtain⟨s,_⟩:=a
 exact qGy (iP.1 ha)
def qA6:TB:=fzR (mJ [.rcd 36,.dat 3] [stA] (fun a=>iO a.1&&a.2.1.isEmpty) (fun a=>(stT a.1,())) rfl)
theorem qDJ:aN 12 qA6:=qDI (bL qBK) (L:=qEW) (J:=qEX) (ka:=[.rcd 36,.dat 3]) (kr:=[stA]) (by kernel_rfl) rfl (by simp) (fun _=>by kernel_rfl) ((stD,()):StT×Unit) (u:=qDD) rfl fun a ha=>by
 obtain⟨s,ids,_⟩:=a
 obtain⟨h1,h2⟩:=o5.1 ha
 obtain rfl:ids=[]:=List.isEmpty_iff.1 h2
 exact qDG (iP.1 h1)
def qG0:TB:=fzR (mJ [.rcd 36,.rcd 44] [stA] (fun a=>iO a.1&&qMJ a.2.1&&(a.1.apps.findIdx? fun b=>b.id==a.2.1.id).isSome) (fun a=>(stT { a.1 with apps:=a.1.apps.set ((a.1.apps.findIdx? fun b=>b.id==a.2.1.id).getD 0) a.2.1 },())) rfl)
theorem qLZ:aN 118 qG0:=qDI (bL qBK) (L:=noL) (J:=noL) (ka:=[.rcd 36,.rcd 44]) (kr:=[stA]) (by kernel_rfl) rfl (by simp) (fun _=>by kernel_rfl) ((stD,()):StT×Unit) (u:=qGs) rfl fun a ha=>by
 obtain⟨s,b,_⟩:=a
 obtain⟨h1,h3⟩:=o5.1 ha
 obtain⟨h1,h2⟩:=o5.1 h1
 obtain⟨i,hi⟩:=jl.1 h3
 have q:=qLX (iP.1 h1) (qEJ.1 h2) hi
 exact⟨q.1,q.2.trans (by simp only[hi];rfl)⟩
def qBR:TB:=fzR (mJ [.rcd 36] [stA] (fun a=>iO a.1) (fun a=>(stT a.1,())) rfl)
theorem qFm:aN 97 qBR:=qDI (qIa qN5) (L:=qFj) (J:=qFk) (ka:=[.rcd 36]) (kr:=[stA]) (by kernel_rfl) rfl (by simp) (fun _=>by kernel_rfl) ((stD,()):StT×Unit) (u:=qDH) rfl fun a ha=>by
 obtain⟨s,_⟩:=a
 exact qN8 (iP.1 ha)
def qR9:List (Nat×Option (List Kd)):=[(143,none),(91,none),(33,none),(92,none),(93,none),(35,none),(37,none),(38,none),(39,none),(154,none),(138,none),(98,none),(99,none),(100,none),(42,none),(51,none),(41,none),(72,none),(101,none),(102,none),(158,none),(103,none),(139,none),(140,none),(76,none),(227,none),(193,none),(141,none),(71,none),(229,none),(73,none),(272,none),(230,none),(77,none),(231,none),(368,none),(350,none),(327,none),(285,none),(243,none),(215,none),(179,none),(132,none),(313,none),(184,none),(185,none),(136,none),(214,none),(178,none),(360,none),(260,none),(374,none),(361,none),(341,none),(312,none),(310,none),(311,none),(273,none),(232,none),(274,none),(275,none),(233,none),(234,none),(342,none),(314,none),(315,none),(276,none),(235,none),(236,none),(163,none),(200,none),(343,none),(316,none),(317,none),(277,none),(160,none),(112,none),(278,none),(237,none),(228,none),(194,none),(135,none),(259,none),(212,none),(375,none),(363,none),(345,none),(391,none),(392,none),(393,none),(383,none),(384,none),(364,none),(191,none),(153,none),(248,none),(346,none),(320,none),(279,none),(238,none),(365,none),(347,none),(321,none),(288,none),(249,none),(322,none),(280,none),(323,none),(281,none),(81,none),(325,none),(324,none),(282,none),(239,none),(195,none),(107,none),(106,none),(105,none),(43,none),(108,none),(109,none),(80,none),(110,none),(111,none),(162,none),(165,none),(164,none),(116,none),(94,none),(44,none),(13,none),(8,none),(155,none),(326,none)]
def qRA:FuncId→List VK→Option (Option (List Kd)):=qBB qR9 []
def qSV:List (Nat×(Nat→St aC.T→Option (List Ld))):=[]
def qSW:List (Nat×(Nat→St aC.T→Option (List Ld))):=[]
def qSX(f:FuncId)(id:Nat)(st:St aC.T):Option (List Ld):=match aQ qSV f with | some L=>L id st | none=>none
def qSY(f:FuncId)(id:Nat)(st:St aC.T):Option (List Ld):=match aQ qSW f with | some L=>L id st | none=>none
def qRB(C:Con aC.T)(cj:FuncId→Option CJK):Nat→ExR aC.T:=exN (hdT aC Tryz.prog C (fun _=>false) 1000 5) cj qRA qSX qSY 24
theorem qN9{C:Con aC.T}{cj:FuncId→Option CJK}(h:jL C cj):oJ (qRB C cj):=vQ (iJ mixed hno h.1 _ _ _) (qF h)
def qQh:T3:=[(86,oN,none),(87,oO,none),(88,oP,none),(89,oQ,none),(90,oU,none),(84,oV,none),(142,kZ,none),(85,oZ,none),(83,mD,none),(104,mE,none),(12,qA6,none),(32,qGz,none),(118,qG0,none),(97,qBR,none)]
theorem qNA:oK qQh:=aD tN aY (aD tO aY (aD tQ aY (aD tT aY (aD tV aY (aD tX aY (aD oW aY (aD tY aY (aD qH aY (aD qI aY (aD qDJ aY (aD qLY aY (aD qLZ aY (aD qFm aY (gQ))))))))))))))
def qRC:Con aC.T:=qE qQh (fun _=>none)
def qRD:FuncId→Option CJK:=cj3 qQh (fun _=>none)
theorem qNB:jL qRC qRD:=eO qNA lZ
end Go.Proofs.YtclpnndkhbnaoaaGreatDoor
namespace Go.Proofs.YtclpnndkhbnaoaaGreatDoor
open Go Go.W Go.Proofs
open Go.W.DT (ret need br both bad loop join)
set_option maxRecDepth 100000
def cfA:Cf:=⟨[[]],[⟨[114,111,111,116],[⟨10000,10000⟩],10000⟩]⟩
def sA0:Se:=⟨cfA,[],[],[],[],[],0,0,0⟩
def sA1:Se:=⟨cfA,[⟨1,0,0,⟨1,1⟩,0,0,true⟩],[],[],[],[],0,0,0⟩
def sA2:Se:=⟨cfA,[⟨1,0,0,⟨1,1⟩,0,0,true⟩],[⟨1,1,[114,111,111,116],0,0,⟨1,1⟩,[⟨0,0,⟨1,1⟩,1,-1,-1,0⟩],0,0,[],[],[],[]⟩],[],[],[],0,0,0⟩
def sAb:Se:=⟨cfA,[⟨1,0,0,⟨1,1⟩,0,1,true⟩],[⟨1,1,[114,111,111,116],0,0,⟨1,1⟩,[⟨0,0,⟨1,1⟩,1,-1,-1,0⟩],0,0,[],[],[],[]⟩],[],[],[],0,0,0⟩
def sA3:Se:=⟨cfA,[⟨1,0,0,⟨1,1⟩,0,1,true⟩],[⟨1,2,[114,111,111,116],0,0,⟨1,1⟩,[],0,0,[],[],[],[]⟩],[⟨1,1,1,⟨1,1⟩,0,0,true,0⟩],[],[],0,0,1⟩
def cA:Ct:=⟨1,1,1,⟨1,1⟩,0,0,true,0⟩
def qRE:Ap:=⟨0,0,[],0,0,⟨0,0⟩,[],0,0,[],[],[],[]⟩
def xA1:Ip:=⟨2,0,0,0,[],⟨1,0,0,⟨1,1⟩,0,0,false⟩,qRE,[],[],⟨0,0,0,0,⟨0,0⟩⟩⟩
def xA2:Ip:=⟨4,0,0,0,[],⟨0,0,0,⟨0,0⟩,0,0,false⟩,⟨1,0,[114,111,111,116],0,0,⟨1,1⟩,[],0,0,[],[],[],[]⟩,[],[],⟨0,0,0,0,⟨0,0⟩⟩⟩
def xA3:Ip:=⟨3,1,1,0,[],⟨0,0,0,⟨0,0⟩,0,0,false⟩,qRE,[],[],⟨0,0,0,0,⟨0,0⟩⟩⟩
abbrev qO3:=qAm (qRB qRC qRD) noL noL 159 [.rcd 36,.int .i64] [.rcd 36,.int .i64,.rcd 80]
end Go.Proofs.YtclpnndkhbnaoaaGreatDoor
