/- Part of the proof: texts Cg. No conditions. -/
import Derived.Test.YtlmkakccmpncjaaGreatDoorBm
set_option linter.all false
noncomputable section
namespace Go.Proofs.YtlmkakccmpncjaaGreatDoor
open Go Go.W Go.Proofs DT
set_option maxRecDepth 100000
abbrev RG:=Cf×Unit
def uJ(ns:List Int)(i:Nat)(K:Int→DT RG):DT RG :=
 join (σ:=(Unit×Unit×Int×Unit)×Unit) (br (decide ((i:Int)<(ns.length:Int))) (need (decide ((i:Int)<(ns.length:Int))&&true&&true) (br (Int.tmod (ns.getD i 0) 3==0)
  (need (decide ((i:Int)<(ns.length:Int))&&true&&true) (need (jF (ns.getD i 0) 20000) (ret (.inl (((),(),w64 (1+(cK (ns.getD i 0) 20000).1),()),())))))
  (ret (.inl (((),(),1000000,()),()))))) (ret (.inl (((),(),1000000,()),())))) fun s=>K s.1.2.2.1
def nJ(ns:List Int)(a b left:Int)(K:Int→DT RG):DT RG :=
 join (σ:=Int×Unit) (need (tN ns a) (need (jF (bQ ns a).1 (w64 (left+1))) (need (tN ns b) (need (jF (bQ ns b).1 4)
  (need (decide (0≤(cK (bQ ns b).1 4).1)&&decide ((cK (bQ ns b).1 4).1<4)) (need (Nat.blt (0+(cK (bQ ns b).1 4).1.toNat) 4)
   (ret (.inl (([]++[0,w64 (left.tdiv 2),left,(cK (bQ ns a).1 (w64 (left+1))).1]).getD (0+(cK (bQ ns b).1 4).1.toNat) 0,()))))))))) fun s=>K s.1
def mJ(ns:List Int)(a b n:Int)(K:Int→DT RG):DT RG :=
 join (σ:=Int×Unit) (need (tN ns a) (need (jF (bQ ns a).1 (w64 (w64 (10000-n)+1))) (need (tN ns b) (need (jF (bQ ns b).1 3)
  (need (decide (0≤(cK (bQ ns b).1 3).1)&&decide ((cK (bQ ns b).1 3).1<3)) (need (Nat.blt (0+(cK (bQ ns b).1 3).1.toNat) 3)
   (ret (.inl (([]++[10000,n,w64 (n+(cK (bQ ns a).1 (w64 (w64 (10000-n)+1))).1)]).getD (0+(cK (bQ ns b).1 3).1.toNat) 0,()))))))))) fun s=>K s.1
def lJ(left:Int)(K:Int→DT RG):DT RG:=join (σ:=Int×Unit) (ret (.inl (left,()))) fun s=>K s.1
def qZi(ns:List Int)(i k:Int):Nat→Int→Int→(List Cp→DT RG)→DT RG
 | 0,_,_,K=>K []
 | 1,j,left,K=>lJ left fun n=>mJ ns (w64 (j+k)) (w64 (i+w64 (2*j))) n fun m=>K [⟨n,m⟩]
 | c+2,j,left,K=>nJ ns (w64 (w64 (i+j)+k)) (w64 (w64 (i*j)+k)) left fun n=>mJ ns (w64 (j+k)) (w64 (i+w64 (2*j))) n fun m=>qZi ns i k (c+1) (j+1) (w64 (left-n)) fun l=>K (⟨n,m⟩::l)
def qPU(ns:List Int):Nat→Nat→(List Int→DT RG)→DT RG
 | 0,_,K=>K []
 | n+1,i,K=>uJ ns i fun u=>qPU ns n (i+1) fun us=>K (u::us)
def zHr(ns:List Int)(i:Int)(c:Nat):Nat→Int→(List (List Cp)→DT RG)→DT RG
 | 0,_,K=>K []
 | l+1,k,K=>qZi ns i k c 0 10000 fun x=>zHr ns i c l (k+1) fun xs=>K (x::xs)
def allT(ns:List Int)(l:Nat):List Nat→Int→(List (List (List Cp))→DT RG)→DT RG
 | [],_,K=>K []
 | c::cs,i,K=>zHr ns i c l 0 fun x=>allT ns l cs (i+1) fun xs=>K (x::xs)
def rZ:Nat→List (B×Nat×Nat×Nat)
 | 0=>[([114,111,111,116],0,0,0)]
 | 1=>[([114,111,111,116],0,0,2),([114,111,111,116,46,97],0,0,0),([114,111,111,116,46,98],0,1,0)]
 | 2=>[([114,111,111,116],0,0,2),([114,111,111,116,46,97],0,0,2),([114,111,111,116,46,97,46,120],1,0,0),([114,111,111,116,46,97,46,121],1,1,0),([114,111,111,116,46,98],0,1,0)]
 | 3=>[([114,111,111,116],0,0,3),([114,111,111,116,46,97],0,0,0),([114,111,111,116,46,98],0,1,1),([114,111,111,116,46,98,46,120],2,0,2),([114,111,111,116,46,98,46,120,46,112],3,0,0),([114,111,111,116,46,98,46,120,46,113],3,1,0),([114,111,111,116,46,99],0,2,0)]
 | _=>[([114,111,111,116],0,0,1),([114,111,111,116,46,97],0,0,0)]
def zHs(xs:List (List (List Cp)))(p j:Nat):Nat→Nat→List Cp
 | 0,_=>[]
 | l+1,k=>((xs.getD p []).getD k []).getD j ⟨0,0⟩::zHs xs p j l (k+1)
def qTF:Nat→List Cp
 | 0=>[]
 | l+1=>⟨10000,10000⟩::qTF l
def zHt(l:Nat)(xs:List (List (List Cp))):List (B×Nat×Nat×Nat)→List Int→List Qu
 | [],_=>[]
 | p::ps,us=>⟨p.1,zHs xs p.2.1 p.2.2.1 l 0,us.headD 0⟩::zHt l xs ps us.tail
def zCm(l:Nat)(xs:List (List (List Cp))):List (B×Nat×Nat×Nat)→List Int→List Qu
 | [],_=>[]
 | p::ps,us=>⟨p.1,qTF l,us.headD 0⟩::zHt l xs ps us.tail
def zKo:Nat→List B
 | 1=>[[]]
 | _=>[[],[103,112,117]]
def mH(r l:Nat)(shape:Int)(ns:List Int):DT RG :=
 need (jF (w64 (shape.tdiv 5)) 2) (need (decide ((cK (w64 (shape.tdiv 5)) 2).1=(l:Int))) (need (jF shape 5) (need (decide ((cK shape 5).1=(r:Int))) (qPU ns (rZ r).length 0 fun us=>allT ns (l+1) ((rZ r).map (·.2.2.2)) 0 fun xs=>ret (⟨zKo (l+1),zCm (l+1) xs (rZ r) us⟩,())))))

end Go.Proofs.YtlmkakccmpncjaaGreatDoor
