/- Part of the proof. No conditions. -/
import Derived.Test.YtehpnjmgjmkjaaaGreatDoorIb
import Derived.Test.YtehpnjmgjmkjaaaGreatDoorBn
namespace Go.Proofs.YtehpnjmgjmkjaaaGreatDoor
open Go Go.W Go.Proofs
open Go.W.DT (ret need br both bad loop join)
set_option maxRecDepth 100000
theorem qQR{n:Nat}:(Nat.ble (0+n) n)=true:=by simp
theorem qQS{α:Type}{xs:List α}:aH 0 (0+xs.length) xs=xs:=by simp[aH]
theorem zGc{α:Type}{xs:List α}{d:α}{i:Nat}:xs.set i (xs.getD i d)=xs:=by
 apply List.ext_getElem?
 intro j
 rw[List.getElem?_set]
 by_cases e:i=j
 ·subst e
  by_cases h:i<xs.length
  ·simp[h,List.getD]
  ·simp[h]
 ·simp[e]
theorem zKB{α:Type}{d:α}{l:List α}:eG (List.replicate l.length d) 0 (List.take (l.length.min l.length) l)=l:=by simp[eG]
theorem zLS{i:Nat}:decide ((0:Int)≤(i:Int))=true:=by simp
theorem qZj{i n:Nat}(h:i<n):Nat.blt i n=true:=by simp[Nat.blt];omega
theorem qIH{l:List Int}(h:l.length≤1000000000):tH l=true∧xO l=(l,()):=zHY (by
 unfold qZc
 simp only[Int.toNat_natCast,zKB,qQS,List.length_replicate,qQR,Bool.and_true]
 exact bB (by simp;omega) rfl)
theorem qAZ{n b:Nat}(h:n≤1000000000)(hb:b≤100000):aX n b=true:=by
 have: n*b≤1000000000*100000:=Nat.mul_le_mul h hb
 simp;omega
theorem zKC{a:Ap}(h:zCT a):qGa a=true∧qMl a=(a,()):=zK9 (by
 unfold zGa
 have q1:=qIH h.grants
 have q2:=qIH h.kills
 have q3:=qIH h.told
 have q4:=qIH h.lost
 simp only[q1.1,q1.2,q2.1,q2.2,q3.1,q3.2,q4.1,q4.2,qAZ h.asks (show 64≤100000 by decide),bH,qB5,qIc,qFS,qQR,Bool.and_true]
 rfl)
def stT(s:Se):StT:=(s.conf.labels,s.conf.queues,s.nodes,s.apps,s.conts,s.slots,s.plans,s.now,s.epoch,s.seq,())
theorem zIK{i n:Nat}(h:i<n)(hn:n≤1000000000):w64 ((i:Int)+1)=((i+1:Nat):Int):=aG h hn
theorem zKD{s:Se}(h:dV s):qDz s=true∧qHg s=(stT s,()):=zKA (by
 unfold zGb
 have f1:=qAZ h.labels (show 16≤100000 by decide)
 have f2:=qAZ h.queues (show 48≤100000 by decide)
 have f3:=qAZ h.nodes (show 64≤100000 by decide)
 have f4:=qAZ h.conts (show 72≤100000 by decide)
 have f5:=qAZ h.slots (show 24≤100000 by decide)
 have f6:=qAZ h.plans (show 48≤100000 by decide)
 have f7:=qAZ h.apps (show 200≤100000 by decide)
 simp only[f1,f2,f3,f4,f5,f6,f7,qIc,bH,zA,qQR,qQS,Bool.and_true,Bool.true_and]
 refine pV s.conf.queues dQu (fun i (_:Unit)=>(i,s.conf.queues,())) (fun _ _=>()) (fun _=>(stT s,())) (fun _ _=>True) (fun i b hi _=>⟨trivial,?_⟩) (fun b _=>?_) (b0:=()) trivial
 ·have hq:=(h.qu _ (bT (d:=dQu) hi)).1
  simp only[bF hi,zLS,qZj hi,qAZ hq (show 16≤100000 by decide),Int.toNat_natCast,Nat.zero_add,zGc,zIK hi h.queues,Bool.and_true,bH,jP]
  first | done | rfl
 ·simp only[bM]
  refine bN rfl ?_
  refine pV s.apps dAp (fun i (_:Unit)=>(i,s.apps,())) (fun _ _=>()) (fun _=>Sum.inr (stT s,())) (fun _ _=>True) (fun i b hi _=>⟨trivial,?_⟩) (fun b _=>?_) (b0:=()) trivial
  ·have q:=zKC (h.app _ (bT (d:=dAp) hi))
   simp only[bF hi,zLS,qZj hi,Int.toNat_natCast,Nat.zero_add,q.1,q.2,qB5,zGc,zIK hi h.apps,Bool.and_true,bH,jP]
   rfl
  ·simp only[bM]
   refine bN rfl ?_
   simp only[qQR,qQS,zA,bH]
   rfl)
theorem xQ{α ρ:Type}[DecidableEq α](d:α)(c:α→α→Bool)(f:Bool→ρ){e:Bool→ρ}(hc:∀x y,c x y = !decide (x=y)){a b:List α}(ha:a.length≤1000000000)(he:e=f) :
  (br ((a.length:Int) != (b.length:Int)) (ret (e false)) (loop ((0:Int),()) fun(s:Int×Unit)=>br (decide (s.1<(a.length:Int))) (need (ixB s.1 (a.length:Int)) (need (ixB s.1 (b.length:Int)) (br (c (a.getD (Int.toNat s.1) d) (b.getD (Int.toNat s.1) d)) (ret (Sum.inr (e false))) (ret (Sum.inl (w64 (s.1+(1:Int)),())))))) (ret (Sum.inr (e true))))).G (f (decide (a=b))):=by
 subst he
 cases hl:((a.length:Int) != (b.length:Int)) with
 | true=>rw[decide_eq_false (zEY hl)];exact fQ rfl rfl
 | false =>
  have hl:=qVX hl
  refine bN rfl (zEX a b d hl (fun i=>(i,())) e (fun i hi=>?_) (bN bM rfl))
  have hi2:i<b.length:=by rw[←hl];exact hi
  refine fQ (bF hi) (bB (bG hi) (bB (bG hi2) ?_))
  simp only[Int.toNat_natCast,hc]
  by_cases h:a.getD i d=b.getD i d
  ·rw[if_pos h,decide_eq_true h]
   refine bN rfl ?_
   rw[aG hi ha];rfl
  ·rw[if_neg h,decide_eq_false h];exact fQ rfl rfl
theorem zKE{a b:List Nd}(h:a.length≤1000000000):qFU a b=true∧qMf a b=(decide (a=b),()):=zK3 (by
 unfold zFU
 exact xQ dNd (fun x y=>!(x.id==y.id&&(x.label==y.label&&(x.rack==y.rack&&((x.cap.mem==y.cap.mem&&(x.cap.cores==y.cap.cores&&true))&&(x.seen==y.seen&&(x.beat==y.beat&&(x.up==y.up&&true)))))))) (fun b=>(b,())) (fun x y=>by rw[Bool.eq_iff_iff];simp[zKb];try grind) h rfl)
theorem zKF{a b:List Ct}(h:a.length≤1000000000):qFV a b=true∧qMg a b=(decide (a=b),()):=zK4 (by
 unfold zFV
 exact xQ dCt (fun x y=>!(x.id==y.id&&(x.app==y.app&&(x.node==y.node&&((x.size.mem==y.size.mem&&(x.size.cores==y.size.cores&&true))&&(x.prio==y.prio&&(x.label==y.label&&(x.master==y.master&&(x.notice==y.notice&&true))))))))) (fun b=>(b,())) (fun x y=>by rw[Bool.eq_iff_iff];simp[zKc];try grind) h rfl)
theorem zKG{a b:List Sl}(h:a.length≤1000000000):qFW a b=true∧qMh a b=(decide (a=b),()):=zK5 (by
 unfold zFW
 exact xQ dSl (fun x y=>!(x.node==y.node&&(x.app==y.app&&(x.prio==y.prio&&true)))) (fun b=>(b,())) (fun x y=>by rw[Bool.eq_iff_iff];simp[zKd];try grind) h rfl)
theorem zKH{a b:List Pn}(h:a.length≤1000000000):qFX a b=true∧qMi a b=(decide (a=b),()):=zK6 (by
 unfold zFX
 exact xQ dPn (fun x y=>!(x.id==y.id&&(x.label==y.label&&(x.start==y.start&&(x.stop==y.stop&&((x.need.mem==y.need.mem&&(x.need.cores==y.need.cores&&true))&&true)))))) (fun b=>(b,())) (fun x y=>by rw[Bool.eq_iff_iff];simp[zKe];try grind) h rfl)
theorem zKI{a b:List Ak}(h:a.length≤1000000000):qFY a b=true∧qMj a b=(decide (a=b),()):=zK7 (by
 unfold zFY
 exact xQ dAk (fun x y=>!(x.prio==y.prio&&(x.label==y.label&&((x.size.mem==y.size.mem&&(x.size.cores==y.size.cores&&true))&&(x.count==y.count&&(x.node==y.node&&(x.rack==y.rack&&(x.missed==y.missed&&true)))))))) (fun b=>(b,())) (fun x y=>by rw[Bool.eq_iff_iff];simp[zJV];try grind) h rfl)
theorem zKJ{a b:List Cp}(h:a.length≤1000000000):qFZ a b=true∧qMk a b=(decide (a=b),()):=zK8 (by
 unfold zFZ
 exact xQ dCp (fun x y=>!(x.least==y.least&&(x.most==y.most&&true))) (fun b=>(b,())) (fun x y=>by rw[Bool.eq_iff_iff];simp[zJY];try grind) h rfl)
theorem qII{a b:List Int}(h:a.length≤1000000000):tF a b=true∧xN a b=(decide (a=b),()):=zHX (by
 unfold qZb
 exact xQ 0 (fun x y=>x != y) (fun b=>(b,())) (fun x y=>by rw[Bool.eq_iff_iff];simp) h rfl)
theorem zIe{a b:List B}(h:a.length≤1000000000):qC2 a b=true∧qFT a b=(decide (a=b),()):=zHW (by
 unfold qZa
 exact xQ [] (fun x y=>!(x==y)) (fun b=>(b,())) (fun x y=>by rw[Bool.eq_iff_iff];simp) h rfl)
theorem qUh{α ρ:Type}[DecidableEq α](d:α)(okf:α→α→Bool)(mf:α→α→Bool×Unit)(f:Bool→ρ){e:Bool→ρ}{a b:List α}(hq:∀x∈a,∀y,okf x y=true∧mf x y=(decide (x=y),()))(ha:a.length≤1000000000)(he:e=f) :
  (br ((a.length:Int) != (b.length:Int)) (ret (e false)) (loop ((0:Int),()) fun(s:Int×Unit)=>br (decide (s.1<(a.length:Int))) (need (ixB s.1 (a.length:Int)) (need (ixB s.1 (b.length:Int)) (need (okf (a.getD (Int.toNat s.1) d) (b.getD (Int.toNat s.1) d)) ((ret (Sum.inl (mf (a.getD (Int.toNat s.1) d) (b.getD (Int.toNat s.1) d)))).join fun(s1:Bool×Unit)=>br (!s1.1) (ret (Sum.inr (e false))) (ret (Sum.inl (w64 (s.1+(1:Int)),()))))))) (ret (Sum.inr (e true))))).G (f (decide (a=b))):=by
 subst he
 cases hl:((a.length:Int) != (b.length:Int)) with
 | true=>rw[decide_eq_false (zEY hl)];exact fQ rfl rfl
 | false =>
  have hl:=qVX hl
  refine bN rfl (zEX a b d hl (fun i=>(i,())) e (fun i hi=>?_) (bN bM rfl))
  have hi2:i<b.length:=by rw[←hl];exact hi
  refine fQ (bF hi) (bB (bG hi) (bB (bG hi2) ?_))
  have q:=hq _ (bT (d:=d) hi) (b.getD i d)
  simp only[Int.toNat_natCast,q.1,q.2,bH,qB5]
  by_cases h:a.getD i d=b.getD i d
  ·rw[if_pos h,decide_eq_true h]
   refine bN rfl ?_
   rw[aG hi ha];rfl
  ·rw[if_neg h,decide_eq_false h];exact fQ rfl rfl
theorem qJl{α:Type}{a b:α}[DecidableEq α]{ρ:Type}{f:Bool→ρ}{c:Bool}{t:DT ρ}(h1:c=false→a≠b)(h2:c=true→t.G (f (decide (a=b)))):(br c t (ret (f false))).G (f (decide (a=b))):=by
 cases c with
 | false=>rw[decide_eq_false (h1 rfl)];exact bN rfl rfl
 | true=>exact fQ rfl (h2 rfl)
theorem nW{ρ:Type}{k:Bool}{r:Bool×Unit}{c:Bool}{K:Bool×Unit→DT ρ}{x:ρ}(q:k=true∧r=(c,()))(h:(K (c,())).G x):(need k ((ret (Sum.inl r)).join K)).G x:=by
 rw[q.1,q.2,bH,qB5];exact h
theorem zIf{a b:Ap}(h:zCT a):qAf a b=true∧qDx a b=(decide (a=b),()):=zHZ (by
 unfold qZd
 have no:∀{c:Bool} {t:DT (Bool×Unit)},(c=true→a≠b)→(c=false→t.G (decide (a=b),()))→(br c (ret (false,())) t).G (decide (a=b),()):=fun h1 h2=>zLJ (f:=fun b=>(b,())) h1 h2
 have ye:∀{c:Bool} {t:DT (Bool×Unit)},(c=false→a≠b)→(c=true→t.G (decide (a=b),()))→(br c t (ret (false,()))).G (decide (a=b),()):=fun h1 h2=>qJl (f:=fun b=>(b,())) h1 h2
 refine no (fun h e=>by subst e;simp at h) fun h1=>no (fun h e=>by subst e;simp at h) fun h2=>no (fun h e=>by subst e;simp at h) fun h3=>no (fun h e=>by subst e;simp at h) fun h4=>no (fun h e=>by subst e;simp at h) fun h5=>no (fun h e=>by subst e;simp at h) fun h6=>no (fun h e=>by subst e;simp at h) fun h7=>no (fun h e=>by subst e;simp at h) fun h8=>nW (zKI h.asks) (ye (fun h e=>by subst e;simp at h) fun h9=>nW (qII h.grants) (ye (fun h e=>by subst e;simp at h) fun h10=>nW (qII h.kills) (ye (fun h e=>by subst e;simp at h) fun h11=>nW (qII h.told) (ye (fun h e=>by subst e;simp at h) fun h12=>nW (qII h.lost) ?_))))
 refine(congrArg (fun z=>(ret (α:=Bool×Unit) (decide (a.lost=b.lost),())).G (z,())) ?_).mp rfl
 simp at h1 h2 h3 h4 h5 h6 h7 h8 h9 h10 h11 h12
 rw[Bool.eq_iff_iff]
 simp only[zJW,decide_eq_true_eq]
 grind)
theorem zIg{a b:Qu}(h:a.caps.length≤1000000000):qAg a b=true∧qDy a b=(decide (a=b),()):=zIa (by
 unfold qZe
 have ye:∀{c:Bool} {t:DT (Bool×Unit)},(c=false→a≠b)→(c=true→t.G (decide (a=b),()))→(br c t (ret (false,()))).G (decide (a=b),()):=fun h1 h2=>qJl (f:=fun b=>(b,())) h1 h2
 refine ye (fun h e=>by subst e;simp at h) fun h1=>ye (fun h e=>by subst e;simp at h) fun h2=>nW (zKJ h) ?_
 refine(congrArg (fun z=>(ret (α:=Bool×Unit) (decide (a.caps=b.caps),())).G (z,())) ?_).mp rfl
 simp at h1 h2
 rw[Bool.eq_iff_iff]
 simp only[zJZ,decide_eq_true_eq]
 grind)
theorem zIh{a b:Cf}(h:CfN 1000000000 a):qC3 a b=true∧qGb a b=(decide (a=b),()):=zIb (by
 unfold qZf
 have ye:∀{c:Bool} {t:DT (Bool×Unit)},(c=false→a≠b)→(c=true→t.G (decide (a=b),()))→(br c t (ret (false,()))).G (decide (a=b),()):=fun h1 h2=>qJl (f:=fun b=>(b,())) h1 h2
 refine nW (zIe h.1) (ye (fun h e=>by subst e;simp at h) fun h1=>aT (decide (a.queues=b.queues),()) (qUh dQu qAg qDy (fun b=>Sum.inl (b,())) (fun x hx y=>zIg (h.3 x hx).1) h.2 rfl) ?_)
 refine(congrArg (fun z=>(ret (α:=Bool×Unit) (decide (a.queues=b.queues),())).G (z,())) ?_).mp rfl
 simp at h1
 rw[Bool.eq_iff_iff]
 simp only[zKa,decide_eq_true_eq]
 grind)
theorem qZk{a b:Se}(h:dV a):tK a b=true∧uK a b=(qGV a b,()):=zId (by
 unfold qZi qGV
 have ye:∀{c:Bool} {t:DT (Bool×Unit)},(c=false→a≠b)→(c=true→t.G (decide (a=b),()))→(br c t (ret (false,()))).G (decide (a=b),()):=fun h1 h2=>qJl (f:=fun b=>(b,())) h1 h2
 refine nW (zIh ⟨h.labels,h.queues,h.qu⟩) (ye (fun h e=>by subst e;simp at h) fun h1=>nW (zKE h.nodes) (ye (fun h e=>by subst e;simp at h) fun h2=>aT (decide (a.apps=b.apps),()) (qUh dAp qAf qDx (fun b=>Sum.inl (b,())) (fun x hx y=>zIf (h.app x hx)) h.apps rfl) (ye (fun h e=>by subst e;simp at h) fun h3=>nW (zKF h.conts) (ye (fun h e=>by subst e;simp at h) fun h4=>nW (zKG h.slots) (ye (fun h e=>by subst e;simp at h) fun h5=>nW (zKH h.plans) (ye (fun h e=>by subst e;simp at h) fun h6=>ye (fun h e=>by subst e;simp at h) fun h7=>ye (fun h e=>by subst e;simp at h) fun h8=>?_))))))
 refine(congrArg (fun z=>(ret (α:=Bool×Unit) (a.seq==b.seq,())).G (z,())) ?_).mp rfl
 simp at h1 h2 h3 h4 h5 h6 h7 h8
 rw[Bool.eq_iff_iff]
 simp only[zKf,decide_eq_true_eq,beq_iff_eq]
 grind)
theorem zLT{σ ρ:Type}{s0:σ}{body:σ→DT (σ ⊕ ρ)}{x:ρ}(h:(body s0).G (.inr x)):(DT.loop s0 body).G x:=DT.qN.2 ⟨1,.inr x,h,rfl⟩
theorem qQT{s:Se}(h:dV s):tJ s []=true∧xP s []=(stT s,()):=zIc (by
 unfold qZg
 have q:=zKD h
 rw[q.1,q.2,bH,qB5]
 simp only[qMb,bH]
 refine zLT (bN rfl ?_)
 simp only[qIc,bH]
 have e1:seX (stT s)=s:=by simp only[seX,stT,qFS]
 simp only[e1,q.1,q.2,bH,qB5]
 rfl)
def qC4(s:Se):Ou×Se:=if s.epoch≥1048576 then(Ou.mk 11 [] [] [] 0,s) else(dOu,{ s with epoch:=s.epoch+1,seq:=0 })
theorem qWO(s:Se):seX (stT s)=s:=by simp only[seX,stT,qFS]
theorem zKK{s:Se}{x:Ip}(h:dV s)(hx:x.kind=99):mI s x=true∧dU s x=(s,Ou.mk 3 [] [] [] 0,()):=qZh (by
 unfold qQQ
 have q0:=qQT h
 rw[q0.1,q0.2,bH,qB5]
 simp only[hx]
 refine aT ((dOu,()),()) (bN rfl (bN rfl (bN rfl (bN rfl (bN rfl (bN rfl (bN rfl (bN rfl (bN rfl (bN rfl (bN rfl rfl))))))))))) ?_
 simp only[bH,qB5,qIc]
 simp only[stT,qFS]
 rfl)
theorem qZl{s:Se}(h:dV s)(e q:Int):dV { s with epoch:=e,seq:=q }:=⟨h.1,h.2,h.3,h.4,h.5,h.6,h.7,h.8,h.9,h.10⟩
theorem zGd{s:Se}{x:Ip}(h:dV s)(hx:x.kind=11)(h0:0≤s.epoch):mI s x=true∧dU s x=((qC4 s).2,(qC4 s).1,()):=qZh (by
 unfold qQQ
 have q0:=qQT h
 rw[q0.1,q0.2,bH,qB5]
 simp only[hx]
 refine rQ (bN rfl (bN rfl (bN rfl (bN rfl (bN rfl (bN rfl (bN rfl (bN rfl (bN rfl (bN rfl (fQ rfl (qZT (fun he=>?_) fun he=>?_))))))))))))
 ·have he:s.epoch≥1048576:=by simpa [stT] using he
  unfold qC4
  rw[if_pos he]
  simp only[bH,qB5,qIc]
  simp only[stT,qFS]
  rfl
 ·have he:¬s.epoch≥1048576:=by simpa [stT] using he
  have ew:w64 (s.epoch+1)=s.epoch+1:=fE (by omega) (by omega)
  unfold qC4
  rw[if_neg he]
  have q1:=qQT (qZl h (s.epoch+1) 0)
  simp only[bH,qIc,stT,qFS,ew]
  simp only[q1.1,q1.2,bH,qB5]
  simp only[stT]
  rfl)
end Go.Proofs.YtehpnjmgjmkjaaaGreatDoor
