/- Part of the proof: texts Qo Qi Qe. No conditions. -/
import Derived.Test.YtclpnndkhbnaoaaGreatDoorQb
import Derived.Test.YtclpnndkhbnaoaaGreatDoorQc
set_option linter.all false
noncomputable section
namespace Go.Proofs.YtclpnndkhbnaoaaGreatDoor
open Go Go.W Go.Proofs
open Go.W.DT (ret need br both bad loop join)
set_option maxRecDepth 100000
def preO(s:Se)(n:Int):Bool:=decide (s=sAb∧n=1)||decide (s=sA3∧n=1)
def qSZ(s:Se):Se×Int×Ct×Unit:=bif s.seq==0 then(sA3,1,cA,()) else(sA3,0,dCt,())
def qMa:TB:=fzR (con [.rcd 36,.int .i64] [.rcd 36,.int .i64,.rcd 80] (fun a=>preO a.1 a.2.1) (fun a=>qSZ a.1) rfl)
theorem qQk:aN 159 qMa:=iF (Spec.gN (zF (qN9 qNB) (L:=noL) (J:=noL) (by kernel_rfl) rfl (fun a ha=>by
 obtain⟨s,n,u⟩:=a
 simp only[preO,jm,decide_eq_true_eq] at ha
 rcases ha with⟨rfl,rfl⟩ | ⟨rfl,rfl⟩
 ·exact Eq.mpr (qQi _) rfl
 ·exact Eq.mpr (qQj _) rfl)) (xC [.rcd 36,.int .i64] [.rcd 36,.int .i64,.rcd 80] _ _ rfl) fun _=>di _)
end Go.Proofs.YtclpnndkhbnaoaaGreatDoor
namespace Go.Proofs.YtclpnndkhbnaoaaGreatDoor
open Go Go.W Go.Proofs
set_option maxRecDepth 100000
def qRF:List (Nat×Option (List Kd)):=[(143,none),(91,none),(33,none),(92,none),(93,none),(35,none),(37,none),(38,none),(39,none),(154,none),(138,none),(98,none),(99,none),(100,none),(42,none),(51,none),(41,none),(72,none),(101,none),(102,none),(158,none),(103,none),(139,none),(140,none),(76,none),(227,none),(193,none),(141,none),(71,none),(229,none),(73,none),(272,none),(230,none),(77,none),(231,none),(368,none),(350,none),(327,none),(285,none),(243,none),(215,none),(179,none),(132,none),(313,none),(184,none),(185,none),(136,none),(214,none),(178,none),(360,none),(260,none),(374,none),(361,none),(341,none),(312,none),(310,none),(311,none),(273,none),(232,none),(274,none),(275,none),(233,none),(234,none),(342,none),(314,none),(315,none),(276,none),(235,none),(236,none),(163,none),(200,none),(343,none),(316,none),(317,none),(277,none),(160,none),(112,none),(278,none),(237,none),(228,none),(194,none),(135,none),(259,none),(212,none),(375,none),(363,none),(345,none),(391,none),(392,none),(393,none),(383,none),(384,none),(364,none),(191,none),(153,none),(248,none),(346,none),(320,none),(279,none),(238,none),(365,none),(347,none),(321,none),(288,none),(249,none),(322,none),(280,none),(323,none),(281,none),(81,none),(325,none),(324,none),(282,none),(239,none),(195,none),(107,none),(106,none),(105,none),(43,none),(108,none),(109,none),(80,none),(110,none),(111,none),(162,none),(165,none),(164,none),(116,none),(94,none),(44,none),(13,none),(8,none),(155,none),(326,none)]
def qRG:FuncId→List VK→Option (Option (List Kd)):=qBB qRF []
def qTa:List (Nat×(Nat→St aC.T→Option (List Ld))):=[]
def qTb:List (Nat×(Nat→St aC.T→Option (List Ld))):=[]
def qTc(f:FuncId)(id:Nat)(st:St aC.T):Option (List Ld):=match aQ qTa f with | some L=>L id st | none=>none
def qTd(f:FuncId)(id:Nat)(st:St aC.T):Option (List Ld):=match aQ qTb f with | some L=>L id st | none=>none
def qRH(C:Con aC.T)(cj:FuncId→Option CJK):Nat→ExR aC.T:=exN (hdT aC Tryz.prog C (fun _=>false) 1000 5) cj qRG qTc qTd 24
theorem qNC{C:Con aC.T}{cj:FuncId→Option CJK}(h:jL C cj):oJ (qRH C cj):=vQ (iJ mixed hno h.1 _ _ _) (qF h)
def qQl:T3:=[(86,oN,none),(87,oO,none),(88,oP,none),(89,oQ,none),(90,oU,none),(84,oV,none),(142,kZ,none),(85,oZ,none),(83,mD,none),(104,mE,none),(12,qA6,none),(32,qGz,none),(118,qG0,none),(97,qBR,none),(159,qMa,none)]
theorem qND:oK qQl:=aD tN aY (aD tO aY (aD tQ aY (aD tT aY (aD tV aY (aD tX aY (aD oW aY (aD tY aY (aD qH aY (aD qI aY (aD qDJ aY (aD qLY aY (aD qLZ aY (aD qFm aY (aD qQk aY (gQ)))))))))))))))
def qRI:Con aC.T:=qE qQl (fun _=>none)
def qRJ:FuncId→Option CJK:=cj3 qQl (fun _=>none)
theorem qNE:jL qRI qRJ:=eO qND lZ
end Go.Proofs.YtclpnndkhbnaoaaGreatDoor
namespace Go.Proofs.YtclpnndkhbnaoaaGreatDoor
open Go Go.W Go.Proofs
open Go.W.DT (ret need br both bad loop join)
set_option maxRecDepth 100000
abbrev qG1:=qAm (qRH qRI qRJ) noL noL 5 [.rcd 36,.rcd 48] [.rcd 36,.bool]
theorem qRK(r:Se×Bool×Unit):(qG1 (sA0,xA1,())).G r=(ret (sA1,true,()):DT (Se×Bool×Unit)).G r:=by kernel_rfl
theorem qRL(r:Se×Bool×Unit):(qG1 (sA1,xA2,())).G r=(ret (sA2,true,()):DT (Se×Bool×Unit)).G r:=by kernel_rfl
theorem qRM(r:Se×Bool×Unit):(qG1 (sA2,xA3,())).G r=(ret (sA3,true,()):DT (Se×Bool×Unit)).G r:=by kernel_rfl
def qRN(s:Se)(x:Ip):Bool:=decide (s=sA0∧x=xA1)||decide (s=sA1∧x=xA2)||decide (s=sA2∧x=xA3)
def qTe(x:Ip):Se×Bool×Unit:=(bif x.kind==2 then sA1 else bif x.kind==4 then sA2 else sA3,true,())
def qFn:TB:=fzR (con [.rcd 36,.rcd 48] [.rcd 36,.bool] (fun a=>qRN a.1 a.2.1) (fun a=>qTe a.2.1) rfl)
theorem qMb:aN 5 qFn:=iF (Spec.gN (zF (qNC qNE) (L:=noL) (J:=noL) (by kernel_rfl) rfl (fun a ha=>by
 obtain⟨s,x,u⟩:=a
 simp only[qRN,jm,decide_eq_true_eq] at ha
 rcases ha with(⟨rfl,rfl⟩ | ⟨rfl,rfl⟩) | ⟨rfl,rfl⟩
 ·exact Eq.mpr (qRK _) rfl
 ·exact Eq.mpr (qRL _) rfl
 ·exact Eq.mpr (qRM _) rfl)) (xC [.rcd 36,.rcd 48] [.rcd 36,.bool] _ _ rfl) fun _=>di _)
end Go.Proofs.YtclpnndkhbnaoaaGreatDoor
