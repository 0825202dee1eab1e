/- Part of the proof: texts Bi Bj Bk Bl Bm Bn Bo Bp Bq. No conditions. -/
import Derived.Test.YtclpnndkhbnaoaaGreatDoorBa
set_option linter.all false
namespace Go.Proofs.YtclpnndkhbnaoaaGreatDoor
open Go Go.W Go.Proofs
open Go.W.DT (ret need br bad loop join)
set_option maxRecDepth 100000
def lo2(a b:Int):Int:=if b<a then b else a
def x16(least want most:List Int)(left:Int)(i:Nat):Int:=lo2 (lo2 (lo2 (vP (least.getD i 0)) (vP (want.getD i 0))) (vP (most.getD i 0))) left
def y16(want most:List Int)(v:List Int×Int)(i:Nat):Int :=
 lo2 (if 0>w64 (lo2 (vP (want.getD i 0)) (vP (most.getD i 0))-v.1.getD i 0) then 0 else w64 (lo2 (vP (want.getD i 0)) (vP (most.getD i 0))-v.1.getD i 0)) v.2
def Deep(c:Cf):Nat→B→Prop
 | 0,_=>False
 | n+1,p=>∀k∈qRo c p,Deep c n k
structure qPy(c:Cf):Prop where
 up:qSB c
 deep:Deep c 6 qAl
 few:c.queues.length≤16

def Pot(b:Nat)(s:Se):Prop:=∃n,SeN n s∧n+s.conts.length≤b
theorem Pot.sz{b:Nat}{s:Se}(h:Pot b s):SeN b s:=by obtain⟨n,h1,h2⟩:=h;exact h1.le (by omega)
theorem Pot.ok{b:Nat}{s:Se}(h:Pot b s)(hb:b≤1000000000):rY s:=h.sz.ok hb
theorem Pot.le{b c:Nat}{s:Se}(h:Pot b s)(hb:b≤c):Pot c s:=by obtain⟨n,h1,h2⟩:=h;exact⟨n,h1,by omega⟩
abbrev CfE:=Cf×Int
def Asc{α:Type}(key:α→Int)(l:List α):Prop:=l.Pairwise fun a b=>key a<key b
theorem qMQ{α:Type}{key:α→Int}{x a:α}{l:List α}(h:key a<key x):xL key x (a::l)=a::xL key x l:=by
 simp[xL,mi,h]
theorem qMR{α:Type}{key:α→Int}{x a:α}{l:List α}(h:key a=key x):xL key x (a::l)=x::l:=by
 have h2:decide (key a<key x)=false:=by simp[h]
 simp[xL,mi,h2,qB8,h]
theorem qMS{α:Type}{key:α→Int}{x a:α}{l:List α}(h:key x<key a)(hl:Asc key (a::l)):xL key x (a::l)=x::a::l:=by
 have h2:decide (key a<key x)=false:=by simp;omega
 have h3:(key a==key x)=false:=by simp;omega
 simp[xL,mi,h2,qB8,h3]
theorem Asc.put{α:Type}{key:α→Int}{x:α}:∀{l:List α},Asc key l→Asc key (xL key x l)
 | [],_=>List.pairwise_singleton _ _
 | a::l,h=>by
  have h1:=jb.1 h
  rcases Int.lt_trichotomy (key a) (key x) with e | e | e
  ·rw[qMQ e]
   refine jb.2 ⟨fun b hb=>?_,Asc.put h1.2⟩
   rcases qET hb with e2 | e2
   ·rw[e2];exact e
   ·exact h1.1 b e2
  ·rw[qMR e]
   exact jb.2 ⟨fun b hb=>by have:= h1.1 b hb;show key x<key b;omega,h1.2⟩
  ·rw[qMS e h]
   exact jb.2 ⟨fun b hb=>by
    rcases fu.1 hb with e2 | e2
    ·rw[e2];exact e
    ·have:= h1.1 b e2;show key x<key b;omega,h⟩
theorem Asc.filter{α:Type}{key:α→Int}{l:List α}(p:α→Bool)(h:Asc key l):Asc key (l.filter p):=List.Pairwise.filter p h
structure Tidy(s:Se):Prop where
 nodes:Asc (·.id) s.nodes
 apps:Asc (·.id) s.apps
theorem Tidy.qEO{s:Se}(h:Tidy s)(a:Ap):Tidy (qEO s a):=⟨h.1,h.2.put⟩
theorem Tidy.qKW{s:Se}(h:Tidy s)(a:Nd):Tidy (qKW s a):=⟨h.1.put,h.2⟩
theorem Tidy.of{s t:Se}(h:Tidy s)(h1:t.nodes=s.nodes)(h2:t.apps=s.apps):Tidy t:=⟨h1▸h.1,h2▸h.2⟩
structure qDA(b:Nat)(c:CfE)(s:Se):Prop where
 pot:Pot b s
 conf:s.conf=c.1
 ep:s.epoch=c.2
 good:qPy c.1
 tidy:Tidy s
theorem qDA.le{b d:Nat}{c:CfE}{s:Se}(h:qDA b c s)(hb:b≤d):qDA d c s:=⟨h.pot.le hb,h.conf,h.ep,h.good,h.tidy⟩
theorem qEU{α:Type}{t u:DT α}{x:α}:(br true t u).G x↔t.G x:=by simp
theorem aT{α:Type}{t:DT α}{x:α}:(need true t).G x↔t.G x:=by simp
theorem qDA.oG{b:Nat}{c:CfE}{s:Se}(h:qDA b c s)(id:Int):qDA b c (oG s id):=by
 obtain⟨k,h1,h2⟩:=h.pot
 exact⟨⟨k,h1.oG id,h2⟩,h.conf,h.ep,h.good,h.tidy.of rfl rfl⟩
end Go.Proofs.YtclpnndkhbnaoaaGreatDoor
