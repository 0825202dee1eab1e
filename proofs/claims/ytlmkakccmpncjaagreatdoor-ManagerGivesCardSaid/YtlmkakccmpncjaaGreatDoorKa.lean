/- Part of the proof: texts Ka Kb Kc Kd Kg. No conditions. -/
import Derived.Test.YtlmkakccmpncjaaGreatDoorIb
import Derived.Test.YtlmkakccmpncjaaGreatDoorBn
set_option linter.all false
namespace Go.Proofs.YtlmkakccmpncjaaGreatDoor
open Go Go.W Go.Proofs
open Go.W.DT (ret need br both bad loop join)
set_option maxRecDepth 100000
theorem qHA{n:Nat}:(Nat.ble (0+n) n)=true:=by simp
theorem qEN{α:Type}{xs:List α}:aO 0 (0+xs.length) xs=xs:=by simp[aO]
theorem zIj{α:Type}{xs:List α}{d:α}{i:Nat}:xs.set i (xs.getD i d)=xs:=by
 apply List.ext_getElem?
 intro j
 rw[List.getElem?_set]
 by_cases e:i=j
 ·subst e
  by_cases h:i<xs.length
  ·simp[h,List.getD]
  ·simp[h]
 ·simp[e]
theorem zIk{α:Type}{d:α}{l:List α}:bG (List.replicate l.length d) 0 (List.take (l.length.min l.length) l)=l:=by simp[bG]
theorem zPu{i:Nat}:decide ((0:Int)≤(i:Int))=true:=by simp
theorem vD{i n:Nat}(h:i<n):Nat.blt i n=true:=by simp[Nat.blt];omega
theorem qIX{l:List Int}(h:l.length≤1000000000):tZ l=true∧yH l=(l,()):=zKE (by
 unfold qZC
 simp only[di,zIk,qEN,List.length_replicate,qHA,aW,fq]
 exact aH (by simp;omega) rfl)
theorem qIY{l:List Int}(h:l.length≤1000000000):uB l=true∧yI l=(l,()):=zKJ (by
 unfold qZH
 simp only[di,zIk,qEN,List.length_replicate,qHA,bZ,aW,fq]
 exact aH (by simp;omega) rfl)
theorem xE{n b:Nat}(h:n≤1000000000)(hb:b≤100000):aT n b=true:=by
 have: n*b≤1000000000*100000:=o5 h hb
 simp;omega
theorem zIl{a:Ap}(h:qIv a):qDI a=true∧qH8 a=(a,()):=zND (by
 unfold zId
 have q1:=qIX h.grants
 have q2:=qIX h.kills
 have q3:=qIX h.told
 have q4:=qIX h.lost
 simp only[q1.1,q1.2,q2.1,q2.2,q3.1,q3.2,q4.1,q4.2,xE h.asks (show 64≤100000 by decide),aW,mO,qBu,qBv,qEN,qHA,fq]
 rfl)
def apT(a:Ap):ApT:=(a.id,a.state,a.queue,a.user,a.prio,a.master.mem,a.master.cores,a.asks,a.seen,a.beat,a.grants,a.kills,a.told,a.lost,())
theorem zNH{a:Ap}(h:qIv a):qGA a=true∧qLF a=(apT a,()):=zNG (by
 unfold zIg
 have q1:=qIY h.grants
 have q2:=qIY h.kills
 have q3:=qIY h.told
 have q4:=qIY h.lost
 simp only[q1.1,q1.2,q2.1,q2.2,q3.1,q3.2,q4.1,q4.2,xE h.asks (show 64≤100000 by decide),aW,mO,qBu,qBv,qPY,qEN,qHA,fq,bZ]
 rfl)
def stT(s:Se):StT:=(s.conf.labels,s.conf.queues,s.nodes,s.apps,s.conts,s.slots,s.plans,s.now,s.epoch,s.seq,())
theorem zLE{i n:Nat}(h:i<n)(hn:n≤1000000000):w64 ((i:Int)+1)=((i+1:Nat):Int):=aD h hn
theorem zIm{s:Se}(h:dH s):qBl s=true∧qEM s=(stT s,()):=zNE (by
 unfold zIe
 have f1:=xE h.labels (show 16≤100000 by decide)
 have f2:=xE h.queues (show 48≤100000 by decide)
 have f3:=xE h.nodes (show 64≤100000 by decide)
 have f4:=xE h.conts (show 72≤100000 by decide)
 have f5:=xE h.slots (show 24≤100000 by decide)
 have f6:=xE h.plans (show 48≤100000 by decide)
 have f7:=xE h.apps (show 200≤100000 by decide)
 simp only[f1,f2,f3,f4,f5,f6,f7,qBu,qBv,jI,aW,bZ,qHA,qEN,fq,jl]
 refine nM s.conf.queues dQu (fun i (_:Unit)=>(i,s.conf.queues,())) (fun _ _=>()) (fun _=>(stT s,())) (fun _ _=>True) (fun i b hi _=>⟨trivial,?_⟩) (fun b _=>?_) (b0:=()) trivial
 ·have hq:=(h.qu _ (bL (d:=dQu) hi)).1
  simp only[aY hi,zPu,vD hi,xE hq (show 16≤100000 by decide),di,dm,zIj,zLE hi h.queues,fq,aW,jQ]
  first | done | rfl
 ·simp only[bE]
  refine aV rfl ?_
  refine nM s.apps dAp (fun i (_:Unit)=>(i,s.apps,())) (fun _ _=>()) (fun _=>Sum.inr (stT s,())) (fun _ _=>True) (fun i b hi _=>⟨trivial,?_⟩) (fun b _=>?_) (b0:=()) trivial
  ·have q:=zIl (h.app _ (bL (d:=dAp) hi))
   simp only[aY hi,zPu,vD hi,di,dm,q.1,q.2,mO,zIj,zLE hi h.apps,fq,aW,jQ]
   rfl
  ·simp only[bE]
   refine aV rfl ?_
   simp only[qBu,qBv,jI,qHA,qEN,bZ,fq,aW]
   rfl)
theorem yJ{α ρ:Type}[DecidableEq α](d:α)(c:α→α→Bool)(f:Bool→ρ){e:Bool→ρ}(hc:∀x y,c x y = !decide (x=y)){a b:List α}(ha:a.length≤1000000000)(he:e=f) :
  (br ((a.length:Int) != (b.length:Int)) (ret (e false)) (loop ((0:Int),()) fun(s:Int×Unit)=>br (decide (s.1<(a.length:Int))) (need (ixB s.1 (a.length:Int)) (need (ixB s.1 (b.length:Int)) (br (c (a.getD (Int.toNat s.1) d) (b.getD (Int.toNat s.1) d)) (ret (Sum.inr (e false))) (ret (Sum.inl (w64 (s.1+(1:Int)),())))))) (ret (Sum.inr (e true))))).G (f (decide (a=b))):=by
 subst he
 cases hl:((a.length:Int) != (b.length:Int)) with
 | true=>rw[decide_eq_false (zGG hl)];exact bW rfl rfl
 | false =>
  have hl:=qWh hl
  refine aV rfl (zGF a b d hl (fun i=>(i,())) e (fun i hi=>?_) (aV bE rfl))
  have hi2:i<b.length:=by rw[←hl];exact hi
  refine bW (aY hi) (aH (bB hi) (aH (bB hi2) ?_))
  simp only[di,hc]
  by_cases h:a.getD i d=b.getD i d
  ·rw[if_pos h,decide_eq_true h]
   refine aV rfl ?_
   rw[aD hi ha];rfl
  ·rw[if_neg h,decide_eq_false h];exact bW rfl rfl
theorem zNI{a b:List Nd}(h:a.length≤1000000000):qG2 a b=true∧qL6 a b=(decide (a=b),()):=zN7 (by
 unfold zHX
 exact yJ dNd (fun x y=>!(x.id==y.id&&(x.label==y.label&&(x.rack==y.rack&&((x.cap.mem==y.cap.mem&&(x.cap.cores==y.cap.cores&&true))&&(x.seen==y.seen&&(x.beat==y.beat&&(x.up==y.up&&true)))))))) (fun b=>(b,())) (fun x y=>by rw[je];simp[zNa];try grind) h rfl)
theorem zNJ{a b:List Ct}(h:a.length≤1000000000):qG3 a b=true∧qL7 a b=(decide (a=b),()):=zN8 (by
 unfold zHY
 exact yJ dCt (fun x y=>!(x.id==y.id&&(x.app==y.app&&(x.node==y.node&&((x.size.mem==y.size.mem&&(x.size.cores==y.size.cores&&true))&&(x.prio==y.prio&&(x.label==y.label&&(x.master==y.master&&(x.notice==y.notice&&true))))))))) (fun b=>(b,())) (fun x y=>by rw[je];simp[zNb];try grind) h rfl)
theorem zNK{a b:List Sl}(h:a.length≤1000000000):qG4 a b=true∧qL8 a b=(decide (a=b),()):=zN9 (by
 unfold zHZ
 exact yJ dSl (fun x y=>!(x.node==y.node&&(x.app==y.app&&(x.prio==y.prio&&true)))) (fun b=>(b,())) (fun x y=>by rw[je];simp[zNc];try grind) h rfl)
theorem zNL{a b:List Pn}(h:a.length≤1000000000):qG5 a b=true∧qL9 a b=(decide (a=b),()):=zNA (by
 unfold zIa
 exact yJ dPn (fun x y=>!(x.id==y.id&&(x.label==y.label&&(x.start==y.start&&(x.stop==y.stop&&((x.need.mem==y.need.mem&&(x.need.cores==y.need.cores&&true))&&true)))))) (fun b=>(b,())) (fun x y=>by rw[je];simp[zNd];try grind) h rfl)
theorem zNM{a b:List Ak}(h:a.length≤1000000000):qG6 a b=true∧qLA a b=(decide (a=b),()):=zNB (by
 unfold zIb
 exact yJ dAk (fun x y=>!(x.prio==y.prio&&(x.label==y.label&&((x.size.mem==y.size.mem&&(x.size.cores==y.size.cores&&true))&&(x.count==y.count&&(x.node==y.node&&(x.rack==y.rack&&(x.missed==y.missed&&true)))))))) (fun b=>(b,())) (fun x y=>by rw[je];simp[zMU];try grind) h rfl)
theorem zNN{a b:List Cp}(h:a.length≤1000000000):qG7 a b=true∧qLB a b=(decide (a=b),()):=zNC (by
 unfold zIc
 exact yJ dCp (fun x y=>!(x.least==y.least&&(x.most==y.most&&true))) (fun b=>(b,())) (fun x y=>by rw[je];simp[zMX];try grind) h rfl)
theorem qIZ{a b:List Int}(h:a.length≤1000000000):tY a b=true∧yG a b=(decide (a=b),()):=zKD (by
 unfold qZB
 exact yJ 0 (fun x y=>x != y) (fun b=>(b,())) (fun x y=>by rw[je];simp) h rfl)
theorem zKN{a b:List B}(h:a.length≤1000000000):qCI a b=true∧qG1 a b=(decide (a=b),()):=zKC (by
 unfold qZA
 exact yJ [] (fun x y=>!(x==y)) (fun b=>(b,())) (fun x y=>by rw[je];simp) h rfl)
theorem qTQ{α ρ:Type}[DecidableEq α](d:α)(okf:α→α→Bool)(mf:α→α→Bool×Unit)(f:Bool→ρ){e:Bool→ρ}{a b:List α}(hq:∀x∈a,∀y,okf x y=true∧mf x y=(decide (x=y),()))(ha:a.length≤1000000000)(he:e=f) :
  (br ((a.length:Int) != (b.length:Int)) (ret (e false)) (loop ((0:Int),()) fun(s:Int×Unit)=>br (decide (s.1<(a.length:Int))) (need (ixB s.1 (a.length:Int)) (need (ixB s.1 (b.length:Int)) (need (okf (a.getD (Int.toNat s.1) d) (b.getD (Int.toNat s.1) d)) ((ret (Sum.inl (mf (a.getD (Int.toNat s.1) d) (b.getD (Int.toNat s.1) d)))).join fun(s1:Bool×Unit)=>br (!s1.1) (ret (Sum.inr (e false))) (ret (Sum.inl (w64 (s.1+(1:Int)),()))))))) (ret (Sum.inr (e true))))).G (f (decide (a=b))):=by
 subst he
 cases hl:((a.length:Int) != (b.length:Int)) with
 | true=>rw[decide_eq_false (zGG hl)];exact bW rfl rfl
 | false =>
  have hl:=qWh hl
  refine aV rfl (zGF a b d hl (fun i=>(i,())) e (fun i hi=>?_) (aV bE rfl))
  have hi2:i<b.length:=by rw[←hl];exact hi
  refine bW (aY hi) (aH (bB hi) (aH (bB hi2) ?_))
  have q:=hq _ (bL (d:=d) hi) (b.getD i d)
  simp only[di,q.1,q.2,aW,mO]
  by_cases h:a.getD i d=b.getD i d
  ·rw[if_pos h,decide_eq_true h]
   refine aV rfl ?_
   rw[aD hi ha];rfl
  ·rw[if_neg h,decide_eq_false h];exact bW rfl rfl
theorem qJ2{α:Type}{a b:α}[DecidableEq α]{ρ:Type}{f:Bool→ρ}{c:Bool}{t:DT ρ}(h1:c=false→a≠b)(h2:c=true→t.G (f (decide (a=b)))):(br c t (ret (f false))).G (f (decide (a=b))):=by
 cases c with
 | false=>rw[decide_eq_false (h1 rfl)];exact aV rfl rfl
 | true=>exact bW rfl (h2 rfl)
theorem nP{ρ:Type}{k:Bool}{r:Bool×Unit}{c:Bool}{K:Bool×Unit→DT ρ}{x:ρ}(q:k=true∧r=(c,()))(h:(K (c,())).G x):(need k ((ret (Sum.inl r)).join K)).G x:=by
 rw[q.1,q.2,aW,mO];exact h
theorem zKO{a b:Ap}(h:qIv a):qAz a b=true∧qDG a b=(decide (a=b),()):=zKF (by
 unfold qZD
 have no:∀{c:Bool} {t:DT (Bool×Unit)},(c=true→a≠b)→(c=false→t.G (decide (a=b),()))→(br c (ret (false,())) t).G (decide (a=b),()):=fun h1 h2=>zPb (f:=fun b=>(b,())) h1 h2
 have ye:∀{c:Bool} {t:DT (Bool×Unit)},(c=false→a≠b)→(c=true→t.G (decide (a=b),()))→(br c t (ret (false,()))).G (decide (a=b),()):=fun h1 h2=>qJ2 (f:=fun b=>(b,())) h1 h2
 refine no (fun h e=>by subst e;simp at h) fun h1=>no (fun h e=>by subst e;simp at h) fun h2=>no (fun h e=>by subst e;simp at h) fun h3=>no (fun h e=>by subst e;simp at h) fun h4=>no (fun h e=>by subst e;simp at h) fun h5=>no (fun h e=>by subst e;simp at h) fun h6=>no (fun h e=>by subst e;simp at h) fun h7=>no (fun h e=>by subst e;simp at h) fun h8=>nP (zNM h.asks) (ye (fun h e=>by subst e;simp at h) fun h9=>nP (qIZ h.grants) (ye (fun h e=>by subst e;simp at h) fun h10=>nP (qIZ h.kills) (ye (fun h e=>by subst e;simp at h) fun h11=>nP (qIZ h.told) (ye (fun h e=>by subst e;simp at h) fun h12=>nP (qIZ h.lost) ?_))))
 refine(congrArg (fun z=>(ret (α:=Bool×Unit) (decide (a.lost=b.lost),())).G (z,())) ?_).mp rfl
 simp at h1 h2 h3 h4 h5 h6 h7 h8 h9 h10 h11 h12
 rw[je]
 simp only[zMV,decide_eq_true_eq]
 grind)
theorem zKP{a b:Qu}(h:a.caps.length≤1000000000):qA0 a b=true∧qDH a b=(decide (a=b),()):=zKG (by
 unfold qZE
 have ye:∀{c:Bool} {t:DT (Bool×Unit)},(c=false→a≠b)→(c=true→t.G (decide (a=b),()))→(br c t (ret (false,()))).G (decide (a=b),()):=fun h1 h2=>qJ2 (f:=fun b=>(b,())) h1 h2
 refine ye (fun h e=>by subst e;simp at h) fun h1=>ye (fun h e=>by subst e;simp at h) fun h2=>nP (zNN h) ?_
 refine(congrArg (fun z=>(ret (α:=Bool×Unit) (decide (a.caps=b.caps),())).G (z,())) ?_).mp rfl
 simp at h1 h2
 rw[je]
 simp only[zMY,decide_eq_true_eq]
 grind)
theorem zKQ{a b:Cf}(h:CfN 1000000000 a):qCJ a b=true∧qG8 a b=(decide (a=b),()):=zKH (by
 unfold qZF
 have ye:∀{c:Bool} {t:DT (Bool×Unit)},(c=false→a≠b)→(c=true→t.G (decide (a=b),()))→(br c t (ret (false,()))).G (decide (a=b),()):=fun h1 h2=>qJ2 (f:=fun b=>(b,())) h1 h2
 refine nP (zKN h.1) (ye (fun h e=>by subst e;simp at h) fun h1=>aN (decide (a.queues=b.queues),()) (qTQ dQu qA0 qDH (fun b=>Sum.inl (b,())) (fun x hx y=>zKP (h.3 x hx).1) h.2 rfl) ?_)
 refine(congrArg (fun z=>(ret (α:=Bool×Unit) (decide (a.queues=b.queues),())).G (z,())) ?_).mp rfl
 simp at h1
 rw[je]
 simp only[zMZ,decide_eq_true_eq]
 grind)
theorem zKR{a b:Se}(h:dH a):qA1 a b=true∧qDK a b=(qPF a b,()):=zKM (by
 unfold qZK qPF
 have ye:∀{c:Bool} {t:DT (Bool×Unit)},(c=false→a≠b)→(c=true→t.G (decide (a=b),()))→(br c t (ret (false,()))).G (decide (a=b),()):=fun h1 h2=>qJ2 (f:=fun b=>(b,())) h1 h2
 refine nP (zKQ ⟨h.labels,h.queues,h.qu⟩) (ye (fun h e=>by subst e;simp at h) fun h1=>nP (zNI h.nodes) (ye (fun h e=>by subst e;simp at h) fun h2=>aN (decide (a.apps=b.apps),()) (qTQ dAp qAz qDG (fun b=>Sum.inl (b,())) (fun x hx y=>zKO (h.app x hx)) h.apps rfl) (ye (fun h e=>by subst e;simp at h) fun h3=>nP (zNJ h.conts) (ye (fun h e=>by subst e;simp at h) fun h4=>nP (zNK h.slots) (ye (fun h e=>by subst e;simp at h) fun h5=>nP (zNL h.plans) (ye (fun h e=>by subst e;simp at h) fun h6=>ye (fun h e=>by subst e;simp at h) fun h7=>ye (fun h e=>by subst e;simp at h) fun h8=>?_))))))
 refine(congrArg (fun z=>(ret (α:=Bool×Unit) (a.seq==b.seq,())).G (z,())) ?_).mp rfl
 simp at h1 h2 h3 h4 h5 h6 h7 h8
 rw[je]
 simp only[zNe,decide_eq_true_eq,beq_iff_eq]
 grind)
theorem zPv{σ ρ:Type}{s0:σ}{body:σ→DT (σ ⊕ ρ)}{x:ρ}(h:(body s0).G (.inr x)):(DT.loop s0 body).G x:=DT.pF.2 ⟨1,.inr x,h,rfl⟩
theorem qZL{s:Se}(h:dH s):xC s []=true∧qBm s []=(stT s,()):=zKI (by
 unfold qZG
 have q:=zIm h
 rw[q.1,q.2,aW,mO]
 simp only[jI,bZ,fq,aW]
 refine zPv (aV rfl ?_)
 simp only[qBu,jI,bZ,fq,aW]
 have e1:seX (stT s)=s:=by simp only[seX,stT,qBv]
 simp only[e1,q.1,q.2,aW,mO,jI]
 rfl)
def qEO(s:Se)(x:Ip):StX:=(s.conf.labels,s.conf.queues,s.nodes,s.apps,s.conts,s.slots,s.plans,s.now,s.epoch,s.seq,x,())
theorem zIn{s:Se}{x:Ip}(hx:x.kind=99):qCL (qEO s x)=true∧qIr (qEO s x)=((Ou.mk 3 [] [] [] 0,()),qEO s x,()):=zLD (by
 unfold zIi qEO
 simp only[hx]
 refine aV rfl (aV rfl (aV rfl (aV rfl (aV rfl (aV rfl (aV rfl (aV rfl (aV rfl (aV rfl (aV rfl ?_))))))))))
 simp only[jI,bZ,fq,aW]
 rfl)
theorem qTR{s:Se}{x:Ip}{o:Ou}{t:Se}(h:dH s)(ht:dH t)(q:qCL (qEO s x)=true∧qIr (qEO s x)=((o,()),qEO t x,())):uC s x=true∧sN s x=(if o.err=0 then t else s,o,()):=zKL (by
 unfold qZJ
 have q0:=qZL h
 rw[q0.1,q0.2,aW,mO]
 simp only[jI,bZ,fq,aW]
 have q':qCL (s.conf.labels,s.conf.queues,s.nodes,s.apps,s.conts,s.slots,s.plans,s.now,s.epoch,s.seq,x,())=true∧qIr (s.conf.labels,s.conf.queues,s.nodes,s.apps,s.conts,s.slots,s.plans,s.now,s.epoch,s.seq,x,())=((o,()),qEO t x,()):=q
 simp only[stT]
 rw[q'.1,q'.2,aW,mO]
 refine qMd (fun he=>?_) fun he=>?_
 ·have he:¬o.err=0:=by simpa using he
  rw[if_neg he,aW,mO]
  simp only[qBu,aW]
  simp only[seX,qBv]
  rfl
 ·have he:o.err=0:=by simpa using he
  rw[if_pos he]
  simp only[qBu,aW]
  have e1:seX (qEO t x)=t:=by simp only[seX,qEO,qBv]
  rw[e1]
  have q1:=qZL ht
  rw[q1.1,q1.2,aW,mO]
  simp only[qBu,aW]
  simp only[seX,qBv]
  rfl)
def ixK{α:Type}(p:α→Bool)(l:List α):Int:=match l.findIdx? p with
 | some i=>(i:Int)
 | none=>-1
theorem zIo{α:Type}{p:α→Bool}{l:List α}{d:α}{i:Nat}(hi:i<l.length)(h:p (l.getD i d)=true)(hI:∀j:Nat,j<i→p (l.getD j d)=false):ixK p l=(i:Int):=by
 have: l.findIdx? p=some i:=by
  rw[oz]
  refine⟨hi,by simpa [List.getD,hi] using h,fun j hj=>?_⟩
  have:= hI j hj
  have hj2:j<l.length:=by omega
  simpa [List.getD,hj2] using this
 simp[ixK,this]
theorem zIp{α:Type}{p:α→Bool}{l:List α}{d:α}(hI:∀j:Nat,j<l.length→p (l.getD j d)=false):ixK p l = -1:=by
 have: l.findIdx? p=none:=by
  rw[su]
  intro x hx
  obtain⟨j,hj,rfl⟩:=qd hx
  have:= hI j hj
  simpa [List.getD,hj] using this
 simp[ixK,this]
theorem qQa{α ρ σ:Type}(l:List α)(d:α)(p:α→Bool)(enc:Int→σ){body:σ→DT (σ ⊕ ρ)}(fin:Int→ρ)
  (hstep:∀i:Nat,i<l.length→(body (enc (i:Int))).G (if p (l.getD i d) then .inr (fin (i:Int)) else .inl (enc ((i+1:Nat):Int))))
  (hend:(body (enc (l.length:Int))).G (.inr (fin (-1)))):(DT.loop (enc 0) body).G (fin (ixK p l)):=by
 refine qHv l.length enc (fun i=>∀j:Nat,j<i→p (l.getD j d)=false) (fun i hi hI=>?_) (fun hI=>?_) (i0:=0) (fun j hj=>by omega) (cz _)
 ·have hb:=hstep i hi
  cases hp:p (l.getD i d) with
  | true=>rw[hp,if_pos rfl] at hb;right;rw[zIo hi hp hI];exact hb
  | false =>
   rw[hp,if_neg (by simp)] at hb
   exact .inl ⟨fun j hj=>by
    rcases iw j i with h | h
    ·exact hI j h
    ·have: j=i:=by omega
     subst this;exact hp,hb⟩
 ·rw[zIp hI];exact hend
theorem zLF{s:Se}(id:Int)(h:dH s):qEL s id=true∧qLD s id=(ixK (fun a:Ap=>a.id==id) s.apps,()):=zPt (by
 unfold zLC
 refine aN (ixK (fun a:Ap=>a.id==id) s.apps,()) (qQa s.apps dAp (fun a:Ap=>a.id==id) (fun i=>(i,())) (fun i=>Sum.inl (i,())) (fun i hi=>?_) (aV bE rfl)) (aF rfl)
 refine bW (aY hi) (aH (bB hi) ?_)
 simp only[di]
 cases hc:(s.apps.getD i dAp).id==id with
 | true=>exact bW rfl rfl
 | false=>exact aV rfl (by rw[aD hi h.apps];rfl))
end Go.Proofs.YtlmkakccmpncjaaGreatDoor
