/- Part of the proof: texts Ka Kb Kc Kd Kg If Kh Ki. No conditions. -/
import Derived.Test.YtclpnndkhbnaoaaGreatDoorIb
import Derived.Test.YtclpnndkhbnaoaaGreatDoorEa
import Derived.Test.YtclpnndkhbnaoaaGreatDoorIa
set_option linter.all false
namespace Go.Proofs.YtclpnndkhbnaoaaGreatDoor
open Go Go.W Go.Proofs
open Go.W.DT (ret need br both bad loop join)
set_option maxRecDepth 100000
theorem vV{n:Nat}:(Nat.ble (0+n) n)=true:=by simp
theorem sI{α:Type}{xs:List α}:eH 0 (0+xs.length) xs=xs:=by simp[eH]
theorem qDF{α:Type}{xs:List α}{d:α}{i:Nat}:xs.set i (xs.getD i d)=xs:=by
 apply List.ext_getElem?
 intro j
 rw[pq]
 by_cases e:i=j
 ·subst e
  by_cases h:i<xs.length
  ·simp[h,List.getD]
  ·simp[h]
 ·simp[e]
theorem qGx{α:Type}{d:α}{l:List α}:aG (List.replicate l.length d) 0 (List.take (l.length.min l.length) l)=l:=by simp[aG]
theorem qFf{i:Nat}:decide ((0:Int)≤(i:Int))=true:=by simp
theorem eP{i n:Nat}(h:i<n):Nat.blt i n=true:=by simp[Nat.blt];omega
theorem qA3{l:List Int}(h:l.length≤1000000000):jZ l=true∧mY l=(l,()):=qNo (by
 unfold qHQ
 simp only[ed,qGx,sI,List.length_replicate,vV,aT,gp]
 exact aF (by simp;omega) rfl)
theorem dM{n b:Nat}(h:n≤1000000000)(hb:b≤100000):dB n b=true:=by
 have: n*b≤1000000000*100000:=Nat.mul_le_mul h hb
 simp;omega
theorem qLR{a:Ap}(h:qIU a):uB a=true∧zJ a=(a,()):=qPP (by
 unfold qLO
 have q1:=qA3 h.grants
 have q2:=qA3 h.kills
 have q3:=qA3 h.told
 have q4:=qA3 h.lost
 simp only[q1.1,q1.2,q2.1,q2.2,q3.1,q3.2,q4.1,q4.2,dM h.asks (show 64≤100000 by decide),aT,mV,oL,oM,sI,vV,gp]
 rfl)
def apT(a:Ap):ApT:=(a.id,a.state,a.queue,a.user,a.prio,a.master.mem,a.master.cores,a.asks,a.seen,a.beat,a.grants,a.kills,a.told,a.lost,())
def stT(s:Se):StT:=(s.conf.labels,s.conf.queues,s.nodes,s.apps,s.conts,s.slots,s.plans,s.now,s.epoch,s.seq,())
theorem qHX{i n:Nat}(h:i<n)(hn:n≤1000000000):w64 ((i:Int)+1)=((i+1:Nat):Int):=dW h hn
theorem qGy{s:Se}(h:rY s):qJ s=true∧vR s=(stT s,()):=qPQ (by
 unfold qLP
 have f1:=dM h.labels (show 16≤100000 by decide)
 have f2:=dM h.queues (show 48≤100000 by decide)
 have f3:=dM h.nodes (show 64≤100000 by decide)
 have f4:=dM h.conts (show 72≤100000 by decide)
 have f5:=dM h.slots (show 24≤100000 by decide)
 have f6:=dM h.plans (show 48≤100000 by decide)
 have f7:=dM h.apps (show 200≤100000 by decide)
 simp only[f1,f2,f3,f4,f5,f6,f7,oL,oM,qG,aT,dF,vV,sI,gp,oq]
 refine qA1 s.conf.queues dQu (fun i (_:Unit)=>(i,s.conf.queues,())) (fun _ _=>()) (fun _=>(stT s,())) (fun _ _=>True) (fun i b hi _=>⟨trivial,?_⟩) (fun b _=>?_) (b0:=()) trivial
 ·have hq:=(h.qu _ (oH (d:=dQu) hi)).1
  simp only[lW hi,qFf,eP hi,dM hq (show 16≤100000 by decide),ed,fe,qDF,qHX hi h.queues,gp,aT,qEU]
  first | done | rfl
 ·simp only[oI]
  refine aM rfl ?_
  refine qA1 s.apps dAp (fun i (_:Unit)=>(i,s.apps,())) (fun _ _=>()) (fun _=>Sum.inr (stT s,())) (fun _ _=>True) (fun i b hi _=>⟨trivial,?_⟩) (fun b _=>?_) (b0:=()) trivial
  ·have q:=qLR (h.app _ (oH (d:=dAp) hi))
   simp only[lW hi,qFf,eP hi,ed,fe,q.1,q.2,mV,qDF,qHX hi h.apps,gp,aT,qEU]
   rfl
  ·simp only[oI]
   refine aM rfl ?_
   simp only[oL,oM,qG,vV,sI,dF,gp,aT]
   rfl)
theorem nC{α ρ:Type}[DecidableEq α](d:α)(c:α→α→Bool)(f:Bool→ρ){e:Bool→ρ}(hc:∀x y,c x y = !decide (x=y)){a b:List α}(ha:a.length≤1000000000)(he:e=f) :
  (br ((a.length:Int) != (b.length:Int)) (ret (e false)) (loop ((0:Int),()) fun(s:Int×Unit)=>br (decide (s.1<(a.length:Int))) (need (ixB s.1 (a.length:Int)) (need (ixB s.1 (b.length:Int)) (br (c (a.getD (Int.toNat s.1) d) (b.getD (Int.toNat s.1) d)) (ret (Sum.inr (e false))) (ret (Sum.inl (w64 (s.1+(1:Int)),())))))) (ret (Sum.inr (e true))))).G (f (decide (a=b))):=by
 subst he
 cases hl:((a.length:Int) != (b.length:Int)) with
 | true=>rw[decide_eq_false (qLg hl)];exact bA rfl rfl
 | false =>
  have hl:=qLh hl
  refine aM rfl (qLf a b d hl (fun i=>(i,())) e (fun i hi=>?_) (aM oI rfl))
  have hi2:i<b.length:=by rw[←hl];exact hi
  refine bA (lW hi) (aF (xN hi) (aF (xN hi2) ?_))
  simp only[ed,hc]
  by_cases h:a.getD i d=b.getD i d
  ·rw[if_pos h,decide_eq_true h]
   refine aM rfl ?_
   rw[dW hi ha];rfl
  ·rw[if_neg h,decide_eq_false h];exact bA rfl rfl
theorem qPS{a b:List Nd}(h:a.length≤1000000000):xR a b=true∧qBD a b=(decide (a=b),()):=qPJ (by
 unfold qLI
 exact nC dNd (fun x y=>!(x.id==y.id&&(x.label==y.label&&(x.rack==y.rack&&((x.cap.mem==y.cap.mem&&(x.cap.cores==y.cap.cores&&true))&&(x.seen==y.seen&&(x.beat==y.beat&&(x.up==y.up&&true)))))))) (fun b=>(b,())) (fun x y=>by rw[jc];simp[qPt];try grind) h rfl)
theorem qPT{a b:List Ct}(h:a.length≤1000000000):xS a b=true∧qBE a b=(decide (a=b),()):=qPK (by
 unfold qLJ
 exact nC dCt (fun x y=>!(x.id==y.id&&(x.app==y.app&&(x.node==y.node&&((x.size.mem==y.size.mem&&(x.size.cores==y.size.cores&&true))&&(x.prio==y.prio&&(x.label==y.label&&(x.master==y.master&&(x.notice==y.notice&&true))))))))) (fun b=>(b,())) (fun x y=>by rw[jc];simp[qPu];try grind) h rfl)
theorem qPU{a b:List Sl}(h:a.length≤1000000000):xU a b=true∧qBF a b=(decide (a=b),()):=qPL (by
 unfold qLK
 exact nC dSl (fun x y=>!(x.node==y.node&&(x.app==y.app&&(x.prio==y.prio&&true)))) (fun b=>(b,())) (fun x y=>by rw[jc];simp[qPv];try grind) h rfl)
theorem qPV{a b:List Pn}(h:a.length≤1000000000):xV a b=true∧qBG a b=(decide (a=b),()):=qPM (by
 unfold qLL
 exact nC dPn (fun x y=>!(x.id==y.id&&(x.label==y.label&&(x.start==y.start&&(x.stop==y.stop&&((x.need.mem==y.need.mem&&(x.need.cores==y.need.cores&&true))&&true)))))) (fun b=>(b,())) (fun x y=>by rw[jc];simp[qPw];try grind) h rfl)
theorem qPW{a b:List Ak}(h:a.length≤1000000000):xW a b=true∧qBH a b=(decide (a=b),()):=qPN (by
 unfold qLM
 exact nC dAk (fun x y=>!(x.prio==y.prio&&(x.label==y.label&&((x.size.mem==y.size.mem&&(x.size.cores==y.size.cores&&true))&&(x.count==y.count&&(x.node==y.node&&(x.rack==y.rack&&(x.missed==y.missed&&true)))))))) (fun b=>(b,())) (fun x y=>by rw[jc];simp[qPo];try grind) h rfl)
theorem qPX{a b:List Cp}(h:a.length≤1000000000):xX a b=true∧qBI a b=(decide (a=b),()):=qPO (by
 unfold qLN
 exact nC dCp (fun x y=>!(x.least==y.least&&(x.most==y.most&&true))) (fun b=>(b,())) (fun x y=>by rw[jc];simp[qPq];try grind) h rfl)
theorem qA4{a b:List Int}(h:a.length≤1000000000):jY a b=true∧mX a b=(decide (a=b),()):=qNn (by
 unfold qHP
 exact nC 0 (fun x y=>x != y) (fun b=>(b,())) (fun x y=>by rw[jc];simp) h rfl)
theorem qNv{a b:List B}(h:a.length≤1000000000):sF a b=true∧xQ a b=(decide (a=b),()):=qNm (by
 unfold qHO
 exact nC [] (fun x y=>!(x==y)) (fun b=>(b,())) (fun x y=>by rw[jc];simp) h rfl)
theorem qFg{α ρ:Type}[DecidableEq α](d:α)(okf:α→α→Bool)(mf:α→α→Bool×Unit)(f:Bool→ρ){e:Bool→ρ}{a b:List α}(hq:∀x∈a,∀y,okf x y=true∧mf x y=(decide (x=y),()))(ha:a.length≤1000000000)(he:e=f) :
  (br ((a.length:Int) != (b.length:Int)) (ret (e false)) (loop ((0:Int),()) fun(s:Int×Unit)=>br (decide (s.1<(a.length:Int))) (need (ixB s.1 (a.length:Int)) (need (ixB s.1 (b.length:Int)) (need (okf (a.getD (Int.toNat s.1) d) (b.getD (Int.toNat s.1) d)) ((ret (Sum.inl (mf (a.getD (Int.toNat s.1) d) (b.getD (Int.toNat s.1) d)))).join fun(s1:Bool×Unit)=>br (!s1.1) (ret (Sum.inr (e false))) (ret (Sum.inl (w64 (s.1+(1:Int)),()))))))) (ret (Sum.inr (e true))))).G (f (decide (a=b))):=by
 subst he
 cases hl:((a.length:Int) != (b.length:Int)) with
 | true=>rw[decide_eq_false (qLg hl)];exact bA rfl rfl
 | false =>
  have hl:=qLh hl
  refine aM rfl (qLf a b d hl (fun i=>(i,())) e (fun i hi=>?_) (aM oI rfl))
  have hi2:i<b.length:=by rw[←hl];exact hi
  refine bA (lW hi) (aF (xN hi) (aF (xN hi2) ?_))
  have q:=hq _ (oH (d:=d) hi) (b.getD i d)
  simp only[ed,q.1,q.2,aT,mV]
  by_cases h:a.getD i d=b.getD i d
  ·rw[if_pos h,decide_eq_true h]
   refine aM rfl ?_
   rw[dW hi ha];rfl
  ·rw[if_neg h,decide_eq_false h];exact bA rfl rfl
theorem qAZ{α:Type}{a b:α}[DecidableEq α]{ρ:Type}{f:Bool→ρ}{c:Bool}{t:DT ρ}(h1:c=false→a≠b)(h2:c=true→t.G (f (decide (a=b)))):(br c t (ret (f false))).G (f (decide (a=b))):=by
 cases c with
 | false=>rw[decide_eq_false (h1 rfl)];exact aM rfl rfl
 | true=>exact bA rfl (h2 rfl)
theorem gZ{ρ:Type}{k:Bool}{r:Bool×Unit}{c:Bool}{K:Bool×Unit→DT ρ}{x:ρ}(q:k=true∧r=(c,()))(h:(K (c,())).G x):(need k ((ret (Sum.inl r)).join K)).G x:=by
 rw[q.1,q.2,aT,mV];exact h
theorem qNw{a b:Ap}(h:qIU a):pE a b=true∧tZ a b=(decide (a=b),()):=qNp (by
 unfold qHR
 have no:∀{c:Bool} {t:DT (Bool×Unit)},(c=true→a≠b)→(c=false→t.G (decide (a=b),()))→(br c (ret (false,())) t).G (decide (a=b),()):=fun h1 h2=>qRp (f:=fun b=>(b,())) h1 h2
 have ye:∀{c:Bool} {t:DT (Bool×Unit)},(c=false→a≠b)→(c=true→t.G (decide (a=b),()))→(br c t (ret (false,()))).G (decide (a=b),()):=fun h1 h2=>qAZ (f:=fun b=>(b,())) h1 h2
 refine no (fun h e=>by subst e;simp at h) fun h1=>no (fun h e=>by subst e;simp at h) fun h2=>no (fun h e=>by subst e;simp at h) fun h3=>no (fun h e=>by subst e;simp at h) fun h4=>no (fun h e=>by subst e;simp at h) fun h5=>no (fun h e=>by subst e;simp at h) fun h6=>no (fun h e=>by subst e;simp at h) fun h7=>no (fun h e=>by subst e;simp at h) fun h8=>gZ (qPW h.asks) (ye (fun h e=>by subst e;simp at h) fun h9=>gZ (qA4 h.grants) (ye (fun h e=>by subst e;simp at h) fun h10=>gZ (qA4 h.kills) (ye (fun h e=>by subst e;simp at h) fun h11=>gZ (qA4 h.told) (ye (fun h e=>by subst e;simp at h) fun h12=>gZ (qA4 h.lost) ?_))))
 refine(congrArg (fun z=>(ret (α:=Bool×Unit) (decide (a.lost=b.lost),())).G (z,())) ?_).mp rfl
 simp at h1 h2 h3 h4 h5 h6 h7 h8 h9 h10 h11 h12
 rw[jc]
 simp only[qPp,decide_eq_true_eq]
 grind)
theorem qNx{a b:Qu}(h:a.caps.length≤1000000000):pF a b=true∧uA a b=(decide (a=b),()):=qNq (by
 unfold qHS
 have ye:∀{c:Bool} {t:DT (Bool×Unit)},(c=false→a≠b)→(c=true→t.G (decide (a=b),()))→(br c t (ret (false,()))).G (decide (a=b),()):=fun h1 h2=>qAZ (f:=fun b=>(b,())) h1 h2
 refine ye (fun h e=>by subst e;simp at h) fun h1=>ye (fun h e=>by subst e;simp at h) fun h2=>gZ (qPX h) ?_
 refine(congrArg (fun z=>(ret (α:=Bool×Unit) (decide (a.caps=b.caps),())).G (z,())) ?_).mp rfl
 simp at h1 h2
 rw[jc]
 simp only[qPr,decide_eq_true_eq]
 grind)
theorem qNy{a b:Cf}(h:CfN 1000000000 a):sG a b=true∧xY a b=(decide (a=b),()):=qNr (by
 unfold qHT
 have ye:∀{c:Bool} {t:DT (Bool×Unit)},(c=false→a≠b)→(c=true→t.G (decide (a=b),()))→(br c t (ret (false,()))).G (decide (a=b),()):=fun h1 h2=>qAZ (f:=fun b=>(b,())) h1 h2
 refine gZ (qNv h.1) (ye (fun h e=>by subst e;simp at h) fun h1=>bH (decide (a.queues=b.queues),()) (qFg dQu pF uA (fun b=>Sum.inl (b,())) (fun x hx y=>qNx (h.3 x hx).1) h.2 rfl) ?_)
 refine(congrArg (fun z=>(ret (α:=Bool×Unit) (decide (a.queues=b.queues),())).G (z,())) ?_).mp rfl
 simp at h1
 rw[jc]
 simp only[qPs,decide_eq_true_eq]
 grind)
theorem qHY{a b:Se}(h:rY a):kC a b=true∧mZ a b=(zD a b,()):=qNu (by
 unfold qHW zD
 have ye:∀{c:Bool} {t:DT (Bool×Unit)},(c=false→a≠b)→(c=true→t.G (decide (a=b),()))→(br c t (ret (false,()))).G (decide (a=b),()):=fun h1 h2=>qAZ (f:=fun b=>(b,())) h1 h2
 refine gZ (qNy ⟨h.labels,h.queues,h.qu⟩) (ye (fun h e=>by subst e;simp at h) fun h1=>gZ (qPS h.nodes) (ye (fun h e=>by subst e;simp at h) fun h2=>bH (decide (a.apps=b.apps),()) (qFg dAp pE tZ (fun b=>Sum.inl (b,())) (fun x hx y=>qNw (h.app x hx)) h.apps rfl) (ye (fun h e=>by subst e;simp at h) fun h3=>gZ (qPT h.conts) (ye (fun h e=>by subst e;simp at h) fun h4=>gZ (qPU h.slots) (ye (fun h e=>by subst e;simp at h) fun h5=>gZ (qPV h.plans) (ye (fun h e=>by subst e;simp at h) fun h6=>ye (fun h e=>by subst e;simp at h) fun h7=>ye (fun h e=>by subst e;simp at h) fun h8=>?_))))))
 refine(congrArg (fun z=>(ret (α:=Bool×Unit) (a.seq==b.seq,())).G (z,())) ?_).mp rfl
 simp at h1 h2 h3 h4 h5 h6 h7 h8
 rw[jc]
 simp only[qPx,decide_eq_true_eq,beq_iff_eq]
 grind)
theorem qFh{σ ρ:Type}{s0:σ}{body:σ→DT (σ ⊕ ρ)}{x:ρ}(h:(body s0).G (.inr x)):(DT.loop s0 body).G x:=DT.lK.2 ⟨1,.inr x,h,rfl⟩
theorem qDG{s:Se}(h:rY s):mG s []=true∧qK s []=(stT s,()):=qNs (by
 unfold qHU
 have q:=qGy h
 rw[q.1,q.2,aT,mV]
 simp only[qG,dF,gp,aT]
 refine qFh (aM rfl ?_)
 simp only[oL,qG,dF,gp,aT]
 have e1:seX (stT s)=s:=by simp only[seX,stT,oM]
 simp only[e1,q.1,q.2,aT,mV,qG]
 rfl)
def qCi(s:Se)(x:Ip):StX:=(s.conf.labels,s.conf.queues,s.nodes,s.apps,s.conts,s.slots,s.plans,s.now,s.epoch,s.seq,x,())
theorem qLS{s:Se}{x:Ip}(hx:x.kind=99):vU (qCi s x)=true∧qBQ (qCi s x)=((Ou.mk 3 [] [] [] 0,()),qCi s x,()):=qRy (by
 unfold qO2 qCi
 simp only[hx]
 refine aM rfl (aM rfl (aM rfl (aM rfl (aM rfl (aM rfl (aM rfl (aM rfl (aM rfl (aM rfl (aM rfl ?_))))))))))
 simp only[qG,dF,gp,aT]
 rfl)
theorem qLT{s:Se}{x:Ip}{o:Ou}{t:Se}(h:rY s)(ht:rY t)(q:vU (qCi s x)=true∧qBQ (qCi s x)=((o,()),qCi t x,())):sH s x=true∧qL s x=(if o.err=0 then t else s,o,()):=qNt (by
 unfold qHV
 have q0:=qDG h
 rw[q0.1,q0.2,aT,mV]
 simp only[qG,dF,gp,aT]
 have q':vU (s.conf.labels,s.conf.queues,s.nodes,s.apps,s.conts,s.slots,s.plans,s.now,s.epoch,s.seq,x,())=true∧qBQ (s.conf.labels,s.conf.queues,s.nodes,s.apps,s.conts,s.slots,s.plans,s.now,s.epoch,s.seq,x,())=((o,()),qCi t x,()):=q
 simp only[stT]
 rw[q'.1,q'.2,aT,mV]
 refine qCg (fun he=>?_) fun he=>?_
 ·have he:¬o.err=0:=by simpa using he
  rw[if_neg he,aT,mV]
  simp only[oL,aT]
  simp only[seX,oM]
  rfl
 ·have he:o.err=0:=by simpa using he
  rw[if_pos he]
  simp only[oL,aT]
  have e1:seX (qCi t x)=t:=by simp only[seX,qCi,oM]
  rw[e1]
  have q1:=qDG ht
  rw[q1.1,q1.2,aT,mV]
  simp only[oL,aT]
  simp only[seX,oM]
  rfl)
def ixK{α:Type}(p:α→Bool)(l:List α):Int:=match l.findIdx? p with
 | some i=>(i:Int)
 | none=>-1
theorem qLU{α:Type}{p:α→Bool}{l:List α}{d:α}{i:Nat}(hi:i<l.length)(h:p (l.getD i d)=true)(hI:∀j:Nat,j<i→p (l.getD j d)=false):ixK p l=(i:Int):=by
 have: l.findIdx? p=some i:=by
  rw[List.findIdx?_eq_some_iff_getElem]
  refine⟨hi,by simpa [List.getD,hi] using h,fun j hj=>?_⟩
  have:= hI j hj
  have hj2:j<l.length:=by omega
  simpa [List.getD,hj2] using this
 simp[ixK,this]
theorem qLV{α:Type}{p:α→Bool}{l:List α}{d:α}(hI:∀j:Nat,j<l.length→p (l.getD j d)=false):ixK p l = -1:=by
 have: l.findIdx? p=none:=by
  rw[List.findIdx?_eq_none_iff]
  intro x hx
  obtain⟨j,hj,rfl⟩:=List.getElem_of_mem hx
  have:= hI j hj
  simpa [List.getD,hj] using this
 simp[ixK,this]
theorem qHZ{α ρ σ:Type}(l:List α)(d:α)(p:α→Bool)(enc:Int→σ){body:σ→DT (σ ⊕ ρ)}(fin:Int→ρ)
  (hstep:∀i:Nat,i<l.length→(body (enc (i:Int))).G (if p (l.getD i d) then .inr (fin (i:Int)) else .inl (enc ((i+1:Nat):Int))))
  (hend:(body (enc (l.length:Int))).G (.inr (fin (-1)))):(DT.loop (enc 0) body).G (fin (ixK p l)):=by
 refine qD9 l.length enc (fun i=>∀j:Nat,j<i→p (l.getD j d)=false) (fun i hi hI=>?_) (fun hI=>?_) (i0:=0) (fun j hj=>by omega) (di _)
 ·have hb:=hstep i hi
  cases hp:p (l.getD i d) with
  | true=>rw[hp,if_pos rfl] at hb;right;rw[qLU hi hp hI];exact hb
  | false =>
   rw[hp,if_neg (by simp)] at hb
   exact .inl ⟨fun j hj=>by
    rcases ja j i with h | h
    ·exact hI j h
    ·have: j=i:=by omega
     subst this;exact hp,hb⟩
 ·rw[qLV hI];exact hend
theorem qRz{s:Se}(id:Int)(h:rY s):zK s id=true∧qCO s id=(ixK (fun a:Ap=>a.id==id) s.apps,()):=qRx (by
 unfold qO1
 refine bH (ixK (fun a:Ap=>a.id==id) s.apps,()) (qHZ s.apps dAp (fun a:Ap=>a.id==id) (fun i=>(i,())) (fun i=>Sum.inl (i,())) (fun i hi=>?_) (aM oI rfl)) (qCI rfl)
 refine bA (lW hi) (aF (xN hi) ?_)
 simp only[ed]
 cases hc:(s.apps.getD i dAp).id==id with
 | true=>exact bA rfl rfl
 | false=>exact aM rfl (by rw[dW hi h.apps];rfl))
theorem eX{α:Type}{l:List α}{d:α}{j:Nat}(h:j<l.length):l.take (j+1)=l.take j++[l.getD j d]:=by
 rw[List.take_succ];simp[List.getD,h]
theorem qCj{α:Type}{l:List α}{a:α}{i:Nat}(h:i<l.length):(l.set i a).take (i+1)=l.take i++[a]:=by
 rw[List.take_succ,List.take_set_of_le (dh i)]
 simp[h]
theorem qPY{α ρ σ:Type}(l0:List α)(d:α)(p:α→Bool)(enc:Int→Int→List α→σ){body:σ→DT (σ ⊕ ρ)}{x:ρ}{i0:Nat}(hi0:i0<l0.length)(hp:p (l0.getD i0 d)=true)(hb:∀k:Nat,k<i0→p (l0.getD k d)=false)
  (hstep:∀(i j:Nat) (l':List α),i<j→j<l0.length→l'.length=l0.length→l'.getD j d=l0.getD j d→(body (enc i j l')).G (.inl (bif p (l0.getD j d) then enc i ((j+1:Nat):Int) l' else enc ((i+1:Nat):Int) ((j+1:Nat):Int) (l'.set i (l0.getD j d)))))
  (hend:∀(i:Nat) (l':List α),i≤l0.length→l'.length=l0.length→l'.take i=l0.filter (fun a=>!p a)→(body (enc i l0.length l')).G (.inr x)):(DT.loop (enc i0 ((i0+1:Nat):Int) l0) body).G x:=by
 have key:∀(n i j:Nat) (l':List α),n=l0.length-j→i<j→j≤l0.length→l'.length=l0.length→l'.take i=(l0.take j).filter (fun a=>!p a)→l'.drop j=l0.drop j →
   ∃m,DT.rM (fun s y=>(body s).G y) m (enc i j l') x:=by
  intro n
  induction n with
  | zero =>
   intro i j l' hn hij hj hl ht _
   have hj:j=l0.length:=by omega
   subst hj
   rw[jd] at ht
   exact⟨1,.inr x,hend i l' (by omega) hl ht,rfl⟩
  | succ n ih =>
   intro i j l' hn hij hj hl ht hd
   have hj2:j<l0.length:=by omega
   have hg:l'.getD j d=l0.getD j d:=by
    have h1:=congrArg (fun z=>z.getD 0 d) hd
    simpa [List.getD,ic] using h1
   have hs:=hstep i j l' hij hj2 hl hg
   have hd2:∀k a,k<j→(l'.set k a).drop (j+1)=l0.drop (j+1):=by
    intro k a hk
    rw[List.drop_set_of_lt (by omega),←pz,hd,pz]
   have hdd3:l'.drop (j+1)=l0.drop (j+1):=by rw[←pz,hd,pz]
   cases hc:p (l0.getD j d) with
   | true =>
    rw[hc] at hs
    obtain⟨m,hm⟩:=ih i (j+1) l' (by omega) (by omega) (by omega) hl (by rw[eX (d:=d) hj2,ng,ht];simp only[o8,List.filter_nil,hc,ou,q8,iy,if_false,if_true,jy]) hdd3
    exact⟨m+1,.inl _,hs,hm⟩
   | false =>
    rw[hc] at hs
    obtain⟨m,hm⟩:=ih (i+1) (j+1) (l'.set i (l0.getD j d)) (by omega) (by omega) (by omega) (by simpa using hl) (by
     rw[eX (d:=d) hj2,ng,←ht,qCj (by omega)];simp only[o8,List.filter_nil,hc,ou,q8,iy,if_false,if_true,jy]) (hd2 i _ hij)
    exact⟨m+1,.inl _,hs,hm⟩
 refine key _ i0 (i0+1) l0 rfl (by omega) (by omega) rfl ?_ rfl
 rw[eX (d:=d) hi0,ng]
 have: (l0.take i0).filter (fun a=>!p a)=l0.take i0:=by
  rw[qp]
  intro a ha
  obtain⟨k,hk,rfl⟩:=List.getElem_of_mem ha
  have hk2:k<i0:=by simp at hk;omega
  have:= hb k hk2
  simp only[List.getElem_take]
  simpa [List.getD,show k<l0.length by omega] using this
 rw[this];simp only[o8,List.filter_nil,hp,ou,q8,iy,if_false,if_true,jy]
theorem ix2{i n:Nat}(h:i<n):(decide ((0:Int)≤(i:Int))&&decide ((i:Int)<(n:Int)))=true:=by
 simp only[bu,decide_eq_true_eq];omega
theorem qLW{α:Type}{p:α→Bool}{l:List α}{i:Nat}(h:l.findIdx? p=some i):i<l.length∧∀d,p (l.getD i d)=true∧∀k:Nat,k<i→p (l.getD k d)=false:=by
 rw[List.findIdx?_eq_some_iff_getElem] at h
 obtain⟨h1,h2,h3⟩:=h
 refine⟨h1,fun d=>⟨by simpa [List.getD,h1] using h2,fun k hk=>?_⟩⟩
 have:= h3 k hk
 simpa [List.getD,show k<l.length by omega] using this
theorem qLX{s:Se}{a:Ap}{i:Nat}(h:rY s)(ha:qIU a)(hf:s.apps.findIdx? (fun b=>b.id==a.id)=some i) :
  xZ s a=true∧qBL s a=(stT { s with apps:=s.apps.set i a },()):=qPR (by
 unfold qLQ
 have q1:=qGy h
 have q2:=qLR ha
 obtain⟨hi,-⟩:=qLW hf
 simp only[q1.1,q1.2,q2.1,q2.2,aT,mV,oL]
 have e:seX (stT s)=s:=by simp only[seX,stT,oM]
 simp only[e]
 have q3:=qRz a.id h
 have e2:ixK (fun b:Ap=>b.id==a.id) s.apps=(i:Int):=by simp only[ixK,hf]
 simp only[q3.1,q3.2,aT,mV,e2]
 have e3:(stT s).2.2.2.1=s.apps:=rfl
 simp only[e3,ed,fe]
 refine bA (by simp) (aF (ix2 hi) (aF (by rw[eP hi];rfl) (aF ?_ rfl)))
 simp only[dF,List.length_set,gp])
end Go.Proofs.YtclpnndkhbnaoaaGreatDoor
