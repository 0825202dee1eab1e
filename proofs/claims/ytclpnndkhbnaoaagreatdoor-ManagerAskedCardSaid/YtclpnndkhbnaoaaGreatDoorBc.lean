/- Part of the proof: texts Br Bs Bt Bu Bv Bw Bx. No conditions. -/
import Derived.Test.YtclpnndkhbnaoaaGreatDoorBb
set_option linter.all false
namespace Go.Proofs.YtclpnndkhbnaoaaGreatDoor
open Go Go.W Go.Proofs
open Go.W.DT (ret need br bad loop join)
set_option maxRecDepth 100000
structure Given(s:Se)(a:Ap)(v:Se×Ap):Prop where
 conts:∃p:Ct→Bool,v.1 = { s with conts:=s.conts.filter p }
 app:∃g:List Int,g.length≤a.grants.length∧v.2 = { a with grants:=g }
theorem Given.keep{b:Nat}{c:CfE}{s:Se}{a:Ap}{v:Se×Ap}(h:qDA b c s)(hv:Given s a v):qDA b c v.1:=by
 obtain⟨p,hp⟩:=hv.conts
 obtain⟨k,h1,h2⟩:=h.pot
 rw[hp]
 have hl:=l6 p s.conts
 exact⟨⟨k,⟨h1.1,h1.2,dm hl h1.3,h1.4,h1.5,h1.6,h1.7,h1.8,h1.9,h1.10⟩,dm (Nat.add_le_add_left hl k) h2⟩,h.conf,h.ep,h.good,h.tidy.of rfl rfl⟩



structure qOv(c:Cf):Prop where
 labels:c.labels.length≤3
 queues:c.queues.length≤16
 lab:∀l∈c.labels,l.length≤2000
 qu:∀q∈c.queues,q.caps.length≤3∧q.path.length≤2000
theorem qOv.n{c:Cf}(h:qOv c):CfN 1000000 c:=⟨dm h.labels (by decide),dm h.queues (by decide),fun q hq=>⟨dm (h.qu q hq).1 (by decide),dm (h.qu q hq).2 (by decide)⟩⟩
structure qLi(b:Nat)(s:Se):Prop where
 keep:qDA b (s.conf,s.epoch) s
theorem qLi.le{b d:Nat}{s:Se}(h:qLi b s)(hb:b≤d):qLi d s:=⟨h.keep.le hb⟩
theorem qLi.ok{b:Nat}{s:Se}(h:qLi b s)(hb:b≤1000000000):rY s:=h.keep.pot.ok hb
end Go.Proofs.YtclpnndkhbnaoaaGreatDoor
