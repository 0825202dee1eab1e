/- Part of the proof: texts If Kh Ki Kj Kk. No conditions. -/
import Derived.Test.YtlmkakccmpncjaaGreatDoorIa
import Derived.Test.YtlmkakccmpncjaaGreatDoorKa
set_option linter.all false
namespace Go.Proofs.YtlmkakccmpncjaaGreatDoor
open Go Go.W Go.Proofs
open Go.W.DT (ret need br both bad loop join)
set_option maxRecDepth 100000
theorem xG{α:Type}{l:List α}{d:α}{j:Nat}(h:j<l.length):l.take (j+1)=l.take j++[l.getD j d]:=by
 rw[List.take_succ];simp[List.getD,h]
theorem qMn{α:Type}{l:List α}{a:α}{i:Nat}(h:i<l.length):(l.set i a).take (i+1)=l.take i++[a]:=by
 rw[List.take_succ,List.take_set_of_le (df i)]
 simp[h]
theorem zNO{α ρ σ:Type}(l0:List α)(d:α)(p:α→Bool)(enc:Int→Int→List α→σ){body:σ→DT (σ ⊕ ρ)}{x:ρ}{i0:Nat}(hi0:i0<l0.length)(hp:p (l0.getD i0 d)=true)(hb:∀k:Nat,k<i0→p (l0.getD k d)=false)
  (hstep:∀(i j:Nat) (l':List α),i<j→j<l0.length→l'.length=l0.length→l'.getD j d=l0.getD j d→(body (enc i j l')).G (.inl (bif p (l0.getD j d) then enc i ((j+1:Nat):Int) l' else enc ((i+1:Nat):Int) ((j+1:Nat):Int) (l'.set i (l0.getD j d)))))
  (hend:∀(i:Nat) (l':List α),i≤l0.length→l'.length=l0.length→l'.take i=l0.filter (fun a=>!p a)→(body (enc i l0.length l')).G (.inr x)):(DT.loop (enc i0 ((i0+1:Nat):Int) l0) body).G x:=by
 have key:∀(n i j:Nat) (l':List α),n=l0.length-j→i<j→j≤l0.length→l'.length=l0.length→l'.take i=(l0.take j).filter (fun a=>!p a)→l'.drop j=l0.drop j →
   ∃m,DT.yO (fun s y=>(body s).G y) m (enc i j l') x:=by
  intro n
  induction n with
  | zero =>
   intro i j l' hn hij hj hl ht _
   have hj:j=l0.length:=by omega
   subst hj
   rw[iq] at ht
   exact⟨1,.inr x,hend i l' (by omega) hl ht,rfl⟩
  | succ n ih =>
   intro i j l' hn hij hj hl ht hd
   have hj2:j<l0.length:=by omega
   have hg:l'.getD j d=l0.getD j d:=by
    have h1:=congrArg (fun z=>z.getD 0 d) hd
    simpa [List.getD,jf] using h1
   have hs:=hstep i j l' hij hj2 hl hg
   have hd2:∀k a,k<j→(l'.set k a).drop (j+1)=l0.drop (j+1):=by
    intro k a hk
    rw[List.drop_set_of_lt (by omega),←uk,hd,uk]
   have hd3:l'.drop (j+1)=l0.drop (j+1):=by rw[←uk,hd,uk]
   cases hc:p (l0.getD j d) with
   | true =>
    rw[hc] at hs
    obtain⟨m,hm⟩:=ih i (j+1) l' (by omega) (by omega) (by omega) hl (by rw[xG (d:=d) hj2,ql,ht];simp only[jq,List.filter_nil,hc,j6,o7,ji,if_false,if_true,lv]) hd3
    exact⟨m+1,.inl _,hs,hm⟩
   | false =>
    rw[hc] at hs
    obtain⟨m,hm⟩:=ih (i+1) (j+1) (l'.set i (l0.getD j d)) (by omega) (by omega) (by omega) (by simpa using hl) (by
     rw[xG (d:=d) hj2,ql,←ht,qMn (by omega)];simp only[jq,List.filter_nil,hc,j6,o7,ji,if_false,if_true,lv]) (hd2 i _ hij)
    exact⟨m+1,.inl _,hs,hm⟩
 refine key _ i0 (i0+1) l0 rfl (by omega) (by omega) rfl ?_ rfl
 rw[xG (d:=d) hi0,ql]
 have: (l0.take i0).filter (fun a=>!p a)=l0.take i0:=by
  rw[mr]
  intro a ha
  obtain⟨k,hk,rfl⟩:=qd ha
  have hk2:k<i0:=by simp at hk;omega
  have:= hb k hk2
  simp only[List.getElem_take]
  simpa [List.getD,show k<l0.length by omega] using this
 rw[this];simp only[jq,List.filter_nil,hp,j6,o7,ji,if_false,if_true,lv]
theorem ix2{i n:Nat}(h:i<n):(decide ((0:Int)≤(i:Int))&&decide ((i:Int)<(n:Int)))=true:=by
 simp only[bn,decide_eq_true_eq];omega
theorem ix0{i n:Nat}(h:i<n):Nat.blt (0+i) n=true:=by rw[dm];exact vD h
theorem zKS{l:List Ct}{i:Nat}(h:i<l.length)(hl:l.length≤1000000000):xB l i (w64 ((i:Int)+1))=true∧yF l i (w64 ((i:Int)+1))=((l.eraseIdx i,()),()):=by
 rw[aD h hl]
 exact zKB (zPo (d:=dCt) (b:=72) h)
def oW(app:Int)(v:List Ct×List Int)(id:Int):List Ct×List Int :=
 match v.1.findIdx? (fun c=>c.id==id&&c.app==app&&!c.master) with
 | some i=>(v.1.eraseIdx i,v.2.filter fun g=>!(g==id))
 | none=>v
def stC(t:StX)(c:List Ct):StX:=(t.1,t.2.1,t.2.2.1,t.2.2.2.1,c,t.2.2.2.2.2)
def apG(a:ApT)(g:List Int):ApT:=(a.1,a.2.1,a.2.2.1,a.2.2.2.1,a.2.2.2.2.1,a.2.2.2.2.2.1,a.2.2.2.2.2.2.1,a.2.2.2.2.2.2.2.1,a.2.2.2.2.2.2.2.2.1,a.2.2.2.2.2.2.2.2.2.1,g,a.2.2.2.2.2.2.2.2.2.2.2)
theorem qQb{α:Type}{p:α→Bool}{l:List α}{i:Nat}(h:l.findIdx? p=some i):i<l.length∧∀d,p (l.getD i d)=true∧∀k:Nat,k<i→p (l.getD k d)=false:=by
 rw[oz] at h
 obtain⟨h1,h2,h3⟩:=h
 refine⟨h1,fun d=>⟨by simpa [List.getD,h1] using h2,fun k hk=>?_⟩⟩
 have:= h3 k hk
 simpa [List.getD,show k<l.length by omega] using this
theorem zKT{t:StX}{a:ApT}{ids:List Int}(hc:t.2.2.2.2.1.length≤1000000000)(hg:a.2.2.2.2.2.2.2.2.2.2.1.length≤1000000000)(hi:ids.length≤1000000000) :
  qCK t a ids=true∧qDJ t a ids=((apG a (ids.foldl (oW a.1) (t.2.2.2.2.1,a.2.2.2.2.2.2.2.2.2.2.1)).2,()),stC t (ids.foldl (oW a.1) (t.2.2.2.2.1,a.2.2.2.2.2.2.2.2.2.2.1)).1,()):=zKK (by
 unfold qZI
 simp only[aW,jI,bZ,fI,iq,fq]
 refine iU ids 0 (fun i (v:List Ct×List Int)=>(i,stC t v.1,apG a v.2,())) (fun v id=>.inl (oW a.1 v id)) (fun v=>((apG a v.2,()),stC t v.1,()))
  (fun _ v=>v.1.length≤1000000000∧v.2.length≤1000000000) (fun i v hin ⟨h1,h2⟩=>?_) (fun v _=>?_) (b0:=(t.2.2.2.2.1,a.2.2.2.2.2.2.2.2.2.2.1)) ⟨hc,hg⟩ (bM (oW a.1) _ ids _)
 ·obtain⟨cs,gs⟩:=v
  simp only at h1 h2 ⊢
  refine⟨?_,bW (aY hin) ?_⟩
  ·unfold oW
   split
   ·exact⟨bq (by simp[List.length_eraseIdx];split<;>omega) h1,bq (gp _ _) h2⟩
   ·exact⟨h1,h2⟩
  generalize hr:oW a.1 (cs,gs) (ids.getD i 0)=r
  refine aN (stC t r.1,apG a r.2,()) (aH (bB hin) ?_) ?_
  ·simp only[di]
   generalize ids.getD i 0=id at hr ⊢
   refine aN (ixK (fun c:Ct=>c.id==id&&c.app==a.1&&!c.master) cs,()) (qQa cs dCt (fun c:Ct=>c.id==id&&c.app==a.1&&!c.master) (fun i=>(i,())) (fun i=>Sum.inl (i,())) (fun k hk=>?_) (aV bE rfl)) ?_
   ·refine bW (aY hk) (aH (ix2 hk) ?_)
    simp only[di]
    refine aH (ix0 hk) ?_
    simp only[dm]
    have e:(apG a gs).1=a.1:=rfl
    simp only[e]
    have e2:(stC t cs).2.2.2.2.1=cs:=rfl
    simp only[e2]
    generalize cs.getD k dCt=c
    rw[aD hk h1]
    cases c.id==id with
    | false=>rfl
    | true =>
     cases c.app==a.1 with
     | false=>rfl
     | true =>
      cases hm:c.master with
      | false=>rfl
      | true=>rfl
   ·unfold oW at hr
    cases hf:cs.findIdx? (fun c:Ct=>c.id==id&&c.app==a.1&&!c.master) with
    | none =>
     simp only[hf] at hr
     subst hr
     have e:ixK (fun c:Ct=>c.id==id&&c.app==a.1&&!c.master) cs = -1:=by simp only[ixK,hf]
     simp only[e]
     refine aV rfl (aH ?_ rfl)
     simp only[jI,bZ,fI,fq]
    | some k =>
     simp only[hf] at hr
     subst hr
     obtain⟨hk,-⟩:=qQb hf
     have e:ixK (fun c:Ct=>c.id==id&&c.app==a.1&&!c.master) cs=(k:Int):=by simp only[ixK,hf]
     simp only[e]
     have q:=zKS hk h1
     refine bW (by simp) (aH (by first | rfl | exact bZ _) (aH q.1 ?_))
     have q2:yF (stC t cs).2.2.2.2.1 (k:Int) (w64 ((k:Int)+1))=((cs.eraseIdx k,()),()):=q.2
     rw[q2]
     refine mO.2 ?_
     refine aN (ixK (fun g=>g==id) gs,()) (qQa gs 0 (fun g=>g==id) (fun i=>(i,())) (fun i=>Sum.inl (i,())) (fun m hm=>?_) (aV bE rfl)) ?_
     ·refine bW (aY hm) (aH (ix2 hm) ?_)
      simp only[di]
      refine aH (ix0 hm) ?_
      have e2:(apG a gs).2.2.2.2.2.2.2.2.2.2.1=gs:=rfl
      simp only[dm,e2]
      rw[aD hm h2]
      cases gs.getD m 0==id<;>rfl
     ·cases hg2:gs.findIdx? (fun g=>g==id) with
      | none =>
       have e:ixK (fun g=>g==id) gs = -1:=by simp only[ixK,hg2]
       simp only[e]
       have hfl:(gs.filter fun g=>!(g==id))=gs:=by
        rw[mr]
        rw[su] at hg2
        intro x hx
        rw[hg2 x hx];rfl
       rw[hfl]
       refine bW rfl (aH ?_ ?_)
       ·rfl
       ·first | rfl | (simp only[iq];rfl) | (show Sum.inl _=Sum.inl _;simp[stC,apG]) | trace_state
      | some m =>
       obtain⟨hm,hm2⟩:=qQb hg2
       have e:ixK (fun g=>g==id) gs=(m:Int):=by simp only[ixK,hg2]
       simp only[e]
       rw[aD hm h2]
       refine aV (by cases hq:((m:Int) == -1) with | false=>rfl | true=>simp at hq) ?_
       refine zNO gs 0 (fun g=>g==id) (fun x y l=>(x,y,l,())) hm (hm2 0).1 (hm2 0).2 (fun i' j l' hij hj hl hg'=>?_) (fun i' l' hi' hl ht=>?_)
       ·have e2:(apG a gs).2.2.2.2.2.2.2.2.2.2.1=gs:=rfl
        simp only[e2,di,dm]
        refine bW (aY hj) (aH (ix2 hj) (aH (vD (by omega)) ?_))
        rw[hg',aD hj h2,aD (show i' < gs.length by omega) h2]
        cases gs.getD j 0==id with
        | true=>exact aV rfl rfl
        | false=>exact bW rfl (aH (ix2 (by omega)) (aH (vD (by omega)) rfl))
       ·have e2:(apG a gs).2.2.2.2.2.2.2.2.2.2.1=gs:=rfl
        have e3:((gs.length:Int)-(i':Int)).toNat=gs.length-i':=by omega
        have e4:Nat.max 0 gs.length=gs.length:=by simp
        have e5:bF 0 (gs.length-i') (List.replicate (gs.length-i') (0:Int))=List.replicate (gs.length-i') 0:=by simp[bF]
        have e6:(bG l' i' (List.replicate (gs.length-i') (0:Int))).length=gs.length:=(qWN (by simp;omega)).trans hl
        have e7:(bG l' i' (List.replicate (gs.length-i') (0:Int))).take i' = gs.filter fun g=>!(g==id):=by
         rw[←ht,bG,List.take_append_of_le_length (by simp;omega),List.take_take,Nat.min_self]
        have e8:((i':Int)-0).toNat=i':=by omega
        simp only[e2,di,dm,e3,e4,e5,e8]
        refine aV bE (aH ?_ (aH (qEK (by omega)) (aH ?_ (aH ?_ ?_))))
        ·simp only[inB,bn,decide_eq_true_eq];omega
        ·simp only[bn,decide_eq_true_eq];omega
        ·simp only[jI,bZ,fq,jl];exact qEK (by omega)
        ·rw[e7];rfl
  ·refine aH ?_ ?_
   ·first | rfl | simp only[jI,bZ,fI,fq]
   ·simp only[iq];rw[aD hin hi];rfl
 ·refine aV bE (aH ?_ ?_)
  ·first | rfl | simp only[jI,bZ,fI,fq]
  ·simp only[iq];rfl)
theorem zLG{n b:Nat}(h:n≤1000000000000)(hb:b≤100):aT (n+1) b=true:=by
 have: (n+1)*b≤1000000000001*100:=o5 (by omega) hb
 simp;omega
theorem qJa{α:Type}{xs:List α}:bF 0 xs.length xs=xs:=by simp[bF]
def sH(cs:List Ct)(out:List Ct)(id:Int):List Ct:=out++cs.filter fun c=>c.id==id
theorem qLJ{cs:List Ct}:∀{ids:List Int} {out:List Ct},(ids.foldl (sH cs) out).length≤out.length+ids.length*cs.length
 | [],out=>by simp
 | i::ids,out=>by
  have h:=qLJ (cs:=cs) (ids:=ids) (out:=sH cs out i)
  have h2:(sH cs out i).length≤out.length+cs.length:=by
   simp only[sH,dh];have:= gp (fun c:Ct=>c.id==i) cs;omega
  simp only[List.foldl,dw,iy,wu]
  omega
theorem zIq{t:StX}{ids:List Int}(hc:t.2.2.2.2.1.length≤1000000000)(hi:ids.length≤1000000000)(hm:ids.length*t.2.2.2.2.1.length≤1000000000000) :
  vP t ids=true∧xD t ids=((ids.foldl (sH t.2.2.2.2.1) [],()),t,()):=zIh (by
 unfold qTP
 generalize t.2.2.2.2.1=cs at hc hm ⊢
 refine iU ids 0 (fun i (v:List Ct)=>(v,i,())) (fun v id=>.inl (sH cs v id)) (fun v=>((v,()),t,())) (fun i v=>v.length≤i*cs.length) (fun i v hin hI=>⟨?_,?_⟩) (fun v hI=>?_) (b0:=[]) (by simp) (bM (sH cs) _ ids _)
 ·have:= gp (fun c:Ct=>c.id==ids.getD i 0) cs
  simp only[sH,dh,iy,wu]
  omega
 ·refine bW (aY hin) (aN (sH cs v (ids.getD i 0),()) (aH (bB hin) (aH (bZ _) ?_)) (aH (bZ _) (by rw[aD hin hi];rfl)))
  simp only[di]
  generalize ids.getD i 0=id
  have hv:v.length+cs.length≤1000000000000:=by
   have: (i+1)*cs.length≤ids.length*cs.length:=dx _ hin
   rw[iy,wu] at this
   omega
  have hfin:sH cs v id=cs.foldl (fun(o:List Ct) c=>bif c.id==id then o++[c] else o) v:=by
   have: ∀(l:List Ct) (o:List Ct),l.foldl (fun(o:List Ct) c=>bif c.id==id then o++[c] else o) o=o++l.filter fun c=>c.id==id:=by
    intro l
    induction l with
    | nil=>intro o;simp
    | cons c l ih =>
     intro o
     simp only[List.foldl,ih]
     cases h:c.id==id<;>simp[h]
   rw[this];rfl
  rw[hfin]
  refine iU cs dCt (fun k (o:List Ct)=>(o,k,())) (fun o c=>.inl (bif c.id==id then o++[c] else o)) (fun o=>Sum.inl (o,())) (fun k o=>o.length≤v.length+k) (fun k o hk hI2=>⟨?_,?_⟩) (fun o _=>?_) (b0:=v) (by simp) (bM _ _ cs _)
  ·cases (cs.getD k dCt).id==id<;>simp<;>omega
  ·refine bW (aY hk) (aN ((bif (cs.getD k dCt).id==id then o++[cs.getD k dCt] else o),()) (aH (ix2 hk) ?_) (aH (bZ _) (by rw[aD hk hc];rfl)))
   simp only[di,dm]
   refine aH (vD hk) ?_
   cases (cs.getD k dCt).id==id with
   | false=>exact aV rfl (aH (bZ _) rfl)
   | true =>
    refine bW rfl (aH (bZ _) (aH ?_ (aH ?_ ?_)))
    ·rw[zLG (by omega) (by omega),fI];rfl
    ·simp only[qJa,dh,dw,gq,dm,bZ]
    ·simp only[qJa];rfl
  ·refine aV bE (aH (bZ _) ?_)
   rfl
 ·refine aV bE (aH ?_ (aH ?_ ?_))
  ·simp only[dm,fI,fq]
  ·exact jI _
  ·simp only[dm,eB];rfl)
def uD(app:Int)(out:List Int)(c:Ct):List Int:=bif c.app==app&&c.notice != 0 then out++[c.id] else out
theorem qWU{t:StX}{app:Int}(hc:t.2.2.2.2.1.length≤1000000000) :
  oV t app=true∧oH t app=((t.2.2.2.2.1.foldl (uD app) [],()),t,()):=qWT (by
 unfold qLI
 generalize t.2.2.2.2.1=cs at hc ⊢
 refine iU cs dCt (fun k (o:List Int)=>(o,k,())) (fun o c=>.inl (uD app o c)) (fun o=>((o,()),t,())) (fun k o=>o.length≤k) (fun k o hk hI=>⟨?_,?_⟩) (fun o _=>?_) (b0:=[]) (by simp) (bM (uD app) _ cs _)
 ·unfold uD
  cases (cs.getD k dCt).app==app&&(cs.getD k dCt).notice != 0<;>simp<;>omega
 ·refine bW (aY hk) (aN (uD app o (cs.getD k dCt),()) (aH (ix2 hk) ?_) (aH (bZ _) (by rw[aD hk hc];rfl)))
  simp only[di,dm]
  refine aH (vD hk) ?_
  unfold uD
  cases (cs.getD k dCt).app==app with
  | false=>exact aV rfl (aH (bZ _) rfl)
  | true =>
   refine bW rfl ?_
   cases (cs.getD k dCt).notice != 0 with
   | false=>exact aV rfl (aH (bZ _) rfl)
   | true =>
    refine bW rfl (aH (bZ _) (aH ?_ (aH ?_ ?_)))
    ·rw[zLG (by omega) (by omega),fI];rfl
    ·simp only[qJa,dh,dw,gq,dm,bZ]
    ·simp only[qJa];rfl
 ·refine aV bE (aH ?_ (aH ?_ ?_))
  ·simp only[dm,fI,fq]
  ·exact jI _
  ·simp only[dm,eB];rfl)
theorem zNP{s:Se}{a:Ap}{i:Nat}(h:dH s)(ha:qIv a)(hf:s.apps.findIdx? (fun b=>b.id==a.id)=some i) :
  qG9 s a=true∧qH9 s a=(stT { s with apps:=s.apps.set i a },()):=zNF (by
 unfold zIf
 have q1:=zIm h
 have q2:=zIl ha
 obtain⟨hi,-⟩:=qQb hf
 simp only[q1.1,q1.2,q2.1,q2.2,aW,mO,qBu]
 have e:seX (stT s)=s:=by simp only[seX,stT,qBv]
 simp only[e]
 have q3:=zLF a.id h
 have e2:ixK (fun b:Ap=>b.id==a.id) s.apps=(i:Int):=by simp only[ixK,hf]
 simp only[q3.1,q3.2,aW,mO,e2]
 have e3:(stT s).2.2.2.1=s.apps:=rfl
 simp only[e3,di,dm]
 refine bW (by simp) (aH (ix2 hi) (aH (by rw[vD hi];rfl) (aH ?_ rfl)))
 simp only[bZ,List.length_set,fq])
def jV(s:Se)(x:Ip):StX:=(s.conf.labels,s.conf.queues,s.nodes,s.apps,s.conts,s.slots,s.plans,s.now,s.epoch,s.seq,x,())
def bS(s:Se)(x:Ip)(a:Ap):List Ct×List Int:=x.ids.foldl (oW a.id) (s.conts,a.grants)
def qBn(s:Se)(x:Ip)(a:Ap):Ap:={ a with seen:=s.now,beat:=w64 (a.beat+1),grants:=[],kills:=[],told:=(bS s x a).2,lost:=a.kills }
def qEP(s:Se)(x:Ip)(a:Ap)(i:Nat):Se:={ s with conts:=(bS s x a).1,apps:=s.apps.set i (qBn s x a) }
def qCM(s:Se)(x:Ip)(a:Ap):Ou:=⟨0,(bS s x a).2.foldl (sH (bS s x a).1) [],(bS s x a).1.foldl (uD a.id) [],a.kills,0⟩
theorem qDL{app:Int}:∀{ids:List Int} {v:List Ct×List Int},(ids.foldl (oW app) v).1.length≤v.1.length∧(ids.foldl (oW app) v).2.length≤v.2.length
 | [],v=>⟨df _,df _⟩
 | i::ids,v=>by
  obtain⟨h1,h2⟩:=qDL (app:=app) (ids:=ids) (v:=oW app v i)
  have h3:(oW app v i).1.length≤v.1.length∧(oW app v i).2.length≤v.2.length:=by
   unfold oW
   split
   ·exact⟨by simp[List.length_eraseIdx];split<;>omega,gp _ _⟩
   ·exact⟨df _,df _⟩
  exact⟨bq h1 h3.1,bq h2 h3.2⟩
theorem zC7{s:Se}{x:Ip}{i:Nat}(h:dH s)(hf:s.apps.findIdx? (fun b=>b.id==x.id)=some i)(hs:(s.apps.getD i dAp).state=2)(hb:x.beat=(s.apps.getD i dAp).beat+1)(hw:w64 (x.beat-(s.apps.getD i dAp).beat)=1)
  (hk:x.asks=[]) (hi:x.ids.length≤1000000000) (hc:s.conts.length≤1000000) (hg:(s.apps.getD i dAp).grants.length≤1000000) (ha:qIv (s.apps.getD i dAp)) :
  sF (jV s x)=true∧sG (jV s x)=((qCM s x (s.apps.getD i dAp),()),jV (qEP s x (s.apps.getD i dAp) i) x,()):=zC6 (by
 obtain⟨hil,hip⟩:=qQb hf
 have hid:((s.apps.getD i dAp).id==x.id)=true:=(hip dAp).1
 unfold qOy
 have e:seX (jV s x)=s:=by simp only[seX,jV,qBv]
 have q3:=zLF x.id h
 have e2:ixK (fun b:Ap=>b.id==x.id) s.apps=(i:Int):=by simp only[ixK,hf]
 rw[e2] at q3
 generalize hA:s.apps.getD i dAp=a at *
 have q4:=zNH ha
 refine aN (apT a,true,()) ?_ ?_
 ·simp only[qBu,aW,e]
  have ex:(jV s x).2.2.2.2.2.2.2.2.2.2.1=x:=rfl
  have ea:(jV s x).2.2.2.1=s.apps:=rfl
  simp only[ex,ea]
  rw[q3.1,q3.2]
  refine aH rfl (mO.2 (aV (by simp) (aH (ix2 hil) ?_)))
  simp only[di,dm]
  refine aH (vD hil) ?_
  rw[hA,q4.1,q4.2]
  refine aH rfl (mO.2 (aH (qPY _) rfl))
 ·have ex:(jV s x).2.2.2.2.2.2.2.2.2.2.1=x:=rfl
  simp only[ex]
  obtain⟨hv1,hv2⟩:=qDL (app:=a.id) (ids:=x.ids) (v:=(s.conts,a.grants))
  have hv1:(bS s x a).1.length≤s.conts.length:=hv1
  have hv2:(bS s x a).2.length≤a.grants.length:=hv2
  refine aV rfl (aV ?_ (aV ?_ (aV ?_ (aV ?_ (aH ?_ ?_)))))
  ·show(a.state != 2)=false
   rw[hs];rfl
  ·show decide (x.beat<a.beat)=false
   simp;omega
  ·show decide (w64 (x.beat-a.beat)>1)=false
   rw[hw];rfl
  ·show(x.beat==a.beat)=false
   simp;omega
  ·simp only[jI,qPY,fq]
  refine⟨1,.inr _,?_,rfl⟩
  refine aV ?_ ?_
  ·show decide ((0:Int)<((jV s x).2.2.2.2.2.2.2.2.2.2.1.asks.length:Int))=false
   rw[ex,hk];rfl
  have qb:=zKT (t:=jV s x) (a:=apT a) (ids:=x.ids) (by show s.conts.length≤_;omega) (by show a.grants.length≤_;omega) hi
  have eb:(x.ids.foldl (oW (apT a).1) ((jV s x).2.2.2.2.1,(apT a).2.2.2.2.2.2.2.2.2.2.1))=bS s x a:=rfl
  rw[eb] at qb
  refine aN (stC (jV s x) (bS s x a).1,apG (apT a) (bS s x a).2,(),(),(),(),(),()) (aH ?_ (aH qb.1 ?_)) ?_
  ·simp only[jI,qPY,fq]
  ·have qb2:qDJ (jV s x) (apT a) (jV s x).2.2.2.2.2.2.2.2.2.2.1.ids=_:=qb.2
   rw[qb2]
   refine mO.2 ?_
   simp only[qBu,aW,jI,qEN]
   rfl
  have qc:=zIq (t:=stC (jV s x) (bS s x a).1) (ids:=(bS s x a).2) (by show(bS s x a).1.length≤_;omega) (by omega) (by
   show(bS s x a).2.length*(bS s x a).1.length≤_
   have: (bS s x a).2.length*(bS s x a).1.length≤1000000*1000000:=o5 (by omega) (by omega)
   omega)
  have qn:=qWU (t:=stC (jV s x) (bS s x a).1) (app:=a.id) (by show(bS s x a).1.length≤_;omega)
  simp only[jI,aW]
  refine aH qc.1 ?_
  have c2:xD (stC (jV s x) (bS s x a).1) (apG (apT a) (bS s x a).2).2.2.2.2.2.2.2.2.2.2.1=(((bS s x a).2.foldl (sH (bS s x a).1) [],()),stC (jV s x) (bS s x a).1,()):=qc.2
  rw[c2]
  refine mO.2 (aH rfl (aH qn.1 ?_))
  have n2:oH (stC (jV s x) (bS s x a).1) (apG (apT a) (bS s x a).2).1=(((bS s x a).1.foldl (uD a.id) [],()),stC (jV s x) (bS s x a).1,()):=qn.2
  simp only[]
  rw[n2]
  refine mO.2 ?_
  simp only[qBu,aW]
  refine aH (xE ha.kills (by decide)) ?_
  have es:seX (stC (jV s x) (bS s x a).1) = { s with conts:=(bS s x a).1 }:=by simp only[seX,qBv,stC,jV]
  rw[es]
  have o1:dH { s with conts:=(bS s x a).1 }:={ h with conts:=by show(bS s x a).1.length≤_;omega }
  have o2:qIv (qBn s x a):={ ha with grants:=by simp[qBn],kills:=by simp[qBn],told:=by show(bS s x a).2.length≤_;omega,lost:=ha.kills }
  have qp:=zNP (a:=qBn s x a) (i:=i) o1 o2 (by
   have: (qBn s x a).id=x.id:=by show a.id=x.id;simpa using hid
   show s.apps.findIdx? (fun b=>b.id==(qBn s x a).id)=some i
   rw[this];exact hf)
  iterate 5 refine aH rfl ?_
  refine aH qp.1 ?_
  have p2:qH9 { s with conts:=(bS s x a).1 } (Ap.mk (apG (apT a) (bS s x a).2).1 (apG (apT a) (bS s x a).2).2.1 (apG (apT a) (bS s x a).2).2.2.1 (apG (apT a) (bS s x a).2).2.2.2.1 (apG (apT a) (bS s x a).2).2.2.2.2.1
    ⟨(apG (apT a) (bS s x a).2).2.2.2.2.2.1,(apG (apT a) (bS s x a).2).2.2.2.2.2.2.1⟩ (apG (apT a) (bS s x a).2).2.2.2.2.2.2.2.1 (stC (jV s x) (bS s x a).1).2.2.2.2.2.2.2.1 (w64 ((apG (apT a) (bS s x a).2).2.2.2.2.2.2.2.2.2.1+1)) [] []
    (apG (apT a) (bS s x a).2).2.2.2.2.2.2.2.2.2.2.1 (apG (apT a) (bS s x a).2).2.2.2.2.2.2.2.2.2.2.2.1)=(stT (qEP s x a i),()):=qp.2
  rw[p2]
  refine mO.2 ?_
  iterate 3 refine aH rfl ?_
  refine aH (by first | rfl | exact jI _) ?_
  simp only[qBv]
  rfl)
theorem zIr{s:Se}{x:Ip}{o:Ou}{t:Se}(hx:x.kind=5)(q:sF (jV s x)=true∧sG (jV s x)=((o,()),jV t x,())):qCL (qEO s x)=true∧qIr (qEO s x)=((o,()),qEO t x,()):=zLD (by
 unfold zIi
 have ex:(qEO s x).2.2.2.2.2.2.2.2.2.2.1=x:=rfl
 simp only[ex,hx]
 refine aV rfl (aV rfl (aV rfl (aV rfl (bW rfl (aH (jI _) (aH q.1 ?_))))))
 have q2:sG (qEO s x)=((o,()),jV t x,()):=q.2
 rw[q2]
 exact mO.2 (aH (jI _) rfl))
theorem qOz{s:Se}{x:Ip}{i:Nat}(h:dH s)(hg:(s.apps.getD i dAp).grants.length≤1000000)(ha:qIv (s.apps.getD i dAp)):dH (qEP s x (s.apps.getD i dAp) i):=by
 obtain⟨hv1,hv2⟩:=qDL (app:=(s.apps.getD i dAp).id) (ids:=x.ids) (v:=(s.conts,(s.apps.getD i dAp).grants))
 refine{ h with conts:=bq hv1 h.conts,apps:=?_,app:=?_ }
 ·show(s.apps.set i _).length≤_
  rw[List.length_set];exact h.apps
 ·intro a ha2
  rcases List.mem_or_eq_of_mem_set ha2 with h1 | rfl
  ·exact h.app a h1
  ·exact{ ha with grants:=by simp[qBn],kills:=by simp[qBn],told:=bq hv2 ha.grants,lost:=ha.kills }
theorem zKU{s:Se}{x:Ip}{i:Nat}(h:dH s)(hx:x.kind=5)(hf:s.apps.findIdx? (fun b=>b.id==x.id)=some i)(hs:(s.apps.getD i dAp).state=2)(hb:x.beat=(s.apps.getD i dAp).beat+1)(hw:w64 (x.beat-(s.apps.getD i dAp).beat)=1)
  (hk:x.asks=[]) (hi:x.ids.length≤1000000000) (hc:s.conts.length≤1000000) (hg:(s.apps.getD i dAp).grants.length≤1000000) (ha:qIv (s.apps.getD i dAp)) :
  uC s x=true∧sN s x=(qEP s x (s.apps.getD i dAp) i,qCM s x (s.apps.getD i dAp),()):=by
 have q:=qTR h (qOz (x:=x) (i:=i) h hg ha) (zIr hx (zC7 h hf hs hb hw hk hi hc hg ha))
 rw[if_pos (show(qCM s x (s.apps.getD i dAp)).err=0 from rfl)] at q
 exact q
end Go.Proofs.YtlmkakccmpncjaaGreatDoor
