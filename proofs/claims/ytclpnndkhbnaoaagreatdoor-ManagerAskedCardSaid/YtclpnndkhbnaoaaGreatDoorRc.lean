/- Part of the proof: texts Ri Rj Rk Rl Rm Rn Ro Rp Rq Rr Rs Ru Rv Rw. No conditions. -/
import Derived.Test.YtclpnndkhbnaoaaGreatDoorRb
set_option linter.all false
namespace Go.Proofs.YtclpnndkhbnaoaaGreatDoor
open Go Go.W Go.Proofs
open Go.W.DT (ret need br bad loop join)
set_option maxRecDepth 100000
end Go.Proofs.YtclpnndkhbnaoaaGreatDoor
namespace Go.Proofs.YtclpnndkhbnaoaaGreatDoor
open Go Go.W Go.Proofs
set_option maxRecDepth 100000
structure ApN(n:Nat)(a:Ap):Prop where
 asks:a.asks.length≤n
 grants:a.grants.length≤n
 kills:a.kills.length≤n
 told:a.told.length≤n
 lost:a.lost.length≤n
 queue:a.queue.length≤n
structure SeN(n:Nat)(s:Se):Prop where
 nodes:s.nodes.length≤n
 apps:s.apps.length≤n
 conts:s.conts.length≤n
 slots:s.slots.length≤n
 plans:s.plans.length≤n
 labels:s.conf.labels.length≤n
 queues:s.conf.queues.length≤n
 app:∀a∈s.apps,ApN n a
 qu:∀q∈s.conf.queues,q.caps.length≤n∧q.path.length≤n
 lab:∀l∈s.conf.labels,l.length≤n
variable {n m:Nat} {s:Se}
theorem ApN.le{a:Ap}(h:ApN n a)(hm:n≤m):ApN m a:=⟨dm h.1 hm,dm h.2 hm,dm h.3 hm,dm h.4 hm,dm h.5 hm,dm h.6 hm⟩
theorem SeN.le(h:SeN n s)(hm:n≤m):SeN m s:=⟨dm h.1 hm,dm h.2 hm,dm h.3 hm,dm h.4 hm,dm h.5 hm,dm h.6 hm,dm h.7 hm,fun a ha=>(h.8 a ha).le hm,fun q hq=>⟨dm (h.9 q hq).1 hm,dm (h.9 q hq).2 hm⟩,fun l hl=>dm (h.10 l hl) hm⟩
theorem ApN.ok{a:Ap}(h:ApN n a)(hn:n≤1000000000):qIU a:=let h:=h.le hn;⟨h.1,h.2,h.3,h.4,h.5,h.6⟩
theorem SeN.ok(h:SeN n s)(hn:n≤1000000000):rY s:=let h:=h.le hn;⟨h.1,h.2,h.3,h.4,h.5,h.6,h.7,fun a ha=>(h.8 a ha).ok (dh _),h.9,h.10⟩
theorem qIW{α:Type}{key:α→Int}{x a:α}:∀{l:List α},a∈qB8 key x l→a∈l
 | [],h=>h
 | b::r,h=>by
  simp only[qB8] at h
  cases hb:key b==key x<;>rw[hb] at h<;>simp_all
theorem qIX{α:Type}(key:α→Int)(x:α):∀l:List α,(qB8 key x l).length≤l.length
 | []=>dh _
 | b::r=>by
  simp only[qB8]
  cases key b==key x<;>simp
theorem qES{α:Type}(key:α→Int)(x:α)(l:List α):(xL key x l).length≤l.length+1:=by
 have:= qIX key x (l.drop (l.takeWhile fun a=>decide (key a<key x)).length)
 simp only[xL,ji,il,j5,qm,ko] at this ⊢
 omega
theorem qET{α:Type}{key:α→Int}{x a:α}{l:List α}(h:a∈xL key x l):a=x∨a∈l:=by
 simp only[xL,dw,ig] at h
 rcases h with(h | h) | h
 ·exact .inr (List.mem_of_mem_take h)
 ·exact .inl h
 ·exact .inr (List.mem_of_mem_drop (qIW h))
theorem SeN.qEO(h:SeN n s){a:Ap}(ha:ApN (n+1) a):SeN (n+1) (qEO s a):=by
 have k:=h.le (Nat.le_succ n)
 refine⟨k.1,dm (qES _ _ _) (Nat.succ_le_succ h.2),k.3,k.4,k.5,k.6,k.7,fun b hb=>?_,k.9,k.10⟩
 rcases qET hb with e | e
 ·exact e▸ha
 ·exact k.8 b e
theorem SeN.qKW(h:SeN n s)(a:Nd):SeN (n+1) (qKW s a) :=
 let k:=h.le (Nat.le_succ n)
 ⟨dm (qES _ _ _) (Nat.succ_le_succ h.1),k.2,k.3,k.4,k.5,k.6,k.7,k.8,k.9,k.10⟩
theorem SeN.qGl(h:SeN n s)(id:Int):SeN n (qGl s id):=⟨h.1,h.2,dm (l6 _ _) h.3,h.4,h.5,h.6,h.7,h.8,h.9,h.10⟩
theorem SeN.oG(h:SeN n s)(id:Int):SeN n (oG s id):=⟨h.1,h.2,h.3,dm (l6 _ _) h.4,h.5,h.6,h.7,h.8,h.9,h.10⟩
theorem SeN.qD6(h:SeN n s)(id:Int):SeN n (qD6 s id).1:=⟨h.1,h.2,dm (l6 _ _) h.3,dm (l6 _ _) h.4,h.5,h.6,h.7,h.8,h.9,h.10⟩
theorem qIY{α:Type}{d:α}{p:α→Bool}{l:List α}:(findD d p l).1=d∨(findD d p l).1∈l:=by
 unfold findD
 cases hf:l.find? p with
 | none=>exact .inl rfl
 | some a=>exact .inr (List.mem_of_find?_eq_some hf)
theorem SeN.rZ(h:SeN n s)(id:Int):ApN n (rZ s id).1:=by
 rcases qIY (d:=dAp) (p:=fun a:Ap=>a.id==id) (l:=s.apps) with e | e
 ·have e:(Go.Proofs.YtclpnndkhbnaoaaGreatDoor.rZ s id).1=dAp:=e
  rw[e]
  exact⟨di _,di _,di _,di _,di _,di _⟩
 ·exact h.8 _ e

theorem oH{α:Type}{l:List α}{i:Nat}{d:α}(hi:i<l.length):l.getD i d∈l:=by
 rw[List.getD,gu hi,mq]
 exact l9 hi
structure CfN(n:Nat)(c:Cf):Prop where
 labels:c.labels.length≤n
 queues:c.queues.length≤n
 qu:∀q∈c.queues,q.caps.length≤n∧q.path.length≤n
theorem SeN.conf{n:Nat}{s:Se}(h:SeN n s):CfN n s.conf:=⟨h.labels,h.queues,h.qu⟩
def qOs(c:Cf)(path:B):Qu×Bool:=findD dQu (fun q=>q.path==path) c.queues
def qRo(c:Cf)(path:B):List B:=c.queues.filterMap fun a=>bif !(path==[])&&qGm a.path==path then some a.path else none
end Go.Proofs.YtclpnndkhbnaoaaGreatDoor
namespace Go.Proofs.YtclpnndkhbnaoaaGreatDoor
open Go Go.W Go.Proofs
open Go.W.DT (ret need br bad loop join)
set_option maxRecDepth 100000
end Go.Proofs.YtclpnndkhbnaoaaGreatDoor
namespace Go.Proofs.YtclpnndkhbnaoaaGreatDoor
open Go Go.W Go.Proofs
set_option maxRecDepth 100000
theorem uS:∀(l:List Ap) (v:Bool×List Ap),(l.foldl kY v).2.length≤v.2.length+l.length∧∀x∈(l.foldl kY v).2,x∈v.2∨x∈l
 | [],v=>⟨dh _,fun x h=>.inl h⟩
 | a::l,v=>by
  obtain⟨h1,h2⟩:=uS l (kY v a)
  rw[List.foldl,j5]
  refine⟨?_,fun x hx=>?_⟩
  ·refine dm h1 ?_
   unfold kY
   cases !v.1&&!live a<;>simp<;>omega
  ·rcases h2 x hx with e | e
   ·unfold kY at e
    cases hc : !v.1&&!live a<;>rw[hc] at e
    ·rcases dw.1 e with e | e
     ·exact .inl e
     ·exact .inr (by rw[ig.1 e];exact List.mem_cons_self)
    ·exact .inl e
   ·exact .inr (jg _ e)
theorem SeN.xM{n:Nat}{s:Se}(h:SeN n s):SeN n (xM s):=by
 obtain⟨h1,h2⟩:=uS s.apps (false,[])
 have h1:(Go.Proofs.YtclpnndkhbnaoaaGreatDoor.xM s).apps.length≤0+s.apps.length:=h1
 refine⟨h.1,by have:= h.2;omega,h.3,h.4,h.5,h.6,h.7,fun a ha=>?_,h.9,h.10⟩
 rcases h2 a ha with e | e
 ·cases e
 ·exact h.8 a e
def upN:Nat→B→List B
 | 0,_=>[]
 | n+1,p=>bif p==[] then[] else p::upN n (qGm p)
def up6(p:B):List B:=upN p.length p
end Go.Proofs.YtclpnndkhbnaoaaGreatDoor
namespace Go.Proofs.YtclpnndkhbnaoaaGreatDoor
open Go Go.W Go.Proofs
open Go.W.DT (ret need br bad loop join)
set_option maxRecDepth 100000
end Go.Proofs.YtclpnndkhbnaoaaGreatDoor
namespace Go.Proofs.YtclpnndkhbnaoaaGreatDoor
open Go Go.W Go.Proofs
set_option maxRecDepth 100000
end Go.Proofs.YtclpnndkhbnaoaaGreatDoor
