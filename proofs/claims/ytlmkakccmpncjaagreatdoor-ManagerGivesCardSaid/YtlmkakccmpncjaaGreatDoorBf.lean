/- Part of the proof: texts Bk Bl. No conditions. -/
import Derived.Test.YtlmkakccmpncjaaGreatDoorBe
set_option linter.all false
namespace Go.Proofs.YtlmkakccmpncjaaGreatDoor
open Go Go.W Go.Proofs
open Go.W.DT (ret need br bad loop join)
set_option maxRecDepth 100000
structure yT(c:Cf):Prop where
 up:qHw c
 deep:Deep c 6 dZ
 few:c.queues.length≤16
def bT(s:Se)(label:Int):List Sh:=(uK s label 6 dZ (gB s label).mem).foldl (fun out x=>qDR (fun y=>Op.bytesLess y.path x.path) x out) []
theorem qTw{α:Type}(p:α→α→Bool)(l v:List α):(l.foldl (fun out a=>qDR (p a) a out) v).length=v.length+l.length:=by
 induction l generalizing v with
 | nil=>rfl
 | cons a l ih=>rw[List.foldl,ih,qCy,dw];omega
theorem qGj{s:Se}(label:Int)(h:dH s)(hc:yT s.conf):(bT s label).length≤16777216:=by
 unfold bT
 refine bq (pg (qTw (fun x y:Sh=>Op.bytesLess y.path x.path) _ [])) ?_
 have:= (qWj label h hc.up hc.few 6 dZ (gB s label).mem (by decide) hc.deep 9 (by decide)).2
 simpa using this
theorem qBh{s:Se}(label:Int)(h:dH s)(hc:yT s.conf):tK s label=true∧rJ s label=(bT s label,()):=qVU (by
 unfold qKR bT
 obtain⟨hd,hdl⟩:=qWj label h hc.up hc.few 6 dZ (gB s label).mem (by decide) hc.deep 9 (by decide)
 refine aH (aM.2 h) ?_
 simp only[aK,qCx]
 have e1:qHt s dZ label (gB s label).mem=true:=hd.1
 have e2:qKE s dZ label (gB s label).mem=(uK s label 6 dZ (gB s label).mem,()):=hd.2
 refine aH e1 ?_
 rw[e2]
 simp only[]
 generalize uK s label 6 dZ (gB s label).mem=ks at hdl ⊢
 have hN:ks.length≤16777216:=hdl
 have hN2:ks.length≤1000000000:=by omega
 refine nM ks dSh (fun i (v:List Sh)=>(v,i,())) (fun out x=>qDR (fun y=>Op.bytesLess y.path x.path) x out) (fun v=>(v,())) (fun i v=>v.length≤i) (fun i v hi hI=>⟨by rw[qCy];omega,?_⟩) (fun v hI=>aF ?_) (b0:=[]) (df 0)
 ·have hI:v.length≤i:=hI
  refine bW (aY hi) (aN (qDR (fun y=>Op.bytesLess y.path (ks.getD i dSh).path) (ks.getD i dSh) v,()) ?_ (aF (by simp only[sS,aD hi hN2])))
  refine aN ((((v.takeWhile fun y=>Op.bytesLess y.path (ks.getD i dSh).path).length:Nat):Int),()) (qKY v dSh (fun k=>(k,())) (fun y=>Op.bytesLess y.path (ks.getD i dSh).path) (fun k=>Sum.inl ((k:Int),())) (fun k hk=>?_) ?_) ?_
  ·simp only[sS,qCr,aY hk,qCv hk,bB hi,aD hk (show v.length≤1000000000 by omega)]
   cases Op.bytesLess (v.getD k dSh).path (ks.getD i dSh).path<;>rfl
  ·simp only[sS,bE]
  ·have hkk:=qGg (l:=v) (fun y=>Op.bytesLess y.path (ks.getD i dSh).path)
   have hv1:v.length≤1000000000:=by omega
   have hv3:(v.take (v.takeWhile fun y=>Op.bytesLess y.path (ks.getD i dSh).path).length++[ks.getD i dSh]).length+v.length≤1000000000:=by rw[dh,ed,gz];omega
   refine aN (v.take (v.takeWhile fun y=>Op.bytesLess y.path (ks.getD i dSh).path).length,()) (aF (zNg hkk hv1 (by decide))) ?_
   refine aN (v.take (v.takeWhile fun y=>Op.bytesLess y.path (ks.getD i dSh).path).length++[ks.getD i dSh],()) (aH (bB hi) (aF ?_)) ?_
   ·simp only[di]
    exact zBY (by rw[ed];omega) (by decide)
   ·rw[←qIT]
    exact aF (zNh hkk hv3 (by decide))
 ·simp only[sS,bE])
def qTx(s:Se)(label:Int)(path:B):Int:=bif (findD dSh (fun x=>x.path==path) (bT s label)).2 then(findD dSh (fun x=>x.path==path) (bT s label)).1.mem else 0
theorem zKj{s:Se}(label:Int)(path:B)(h:dH s)(hc:yT s.conf):qFX s label path=true∧qIQ s label path=(qTx s label path,()):=zJQ (by
 unfold qYC
 have hl:=qGj label h hc
 refine aH (qBh label h hc).1 ?_
 rw[(qBh label h hc).2]
 simp only[]
 unfold qTx
 generalize bT s label=ks at hl ⊢
 have hN:ks.length≤1000000000:=by omega
 refine mR ks dSh (fun i (_:Unit)=>(i,())) (fun _ a=>bif a.path==path then .inr (a.mem,()) else .inl ()) (fun _=>(0,())) (fun _ _=>True) (fun i b hi _=>?_) (fun b _=>?_) (b0:=()) trivial (fD (fun x:Sh=>x.path==path) (fun a b=>(bif b then a.mem else 0,())) dSh ks)
 ·simp only[sS,bB hi,aY hi,aD hi hN]
  cases (ks.getD i dSh).path==path with
  | true=>rfl
  | false=>exact⟨trivial,rfl⟩
 ·simp only[sS,bE])
theorem zGS{α σ ρ:Type}(l:List α)(d:α)(enc:Int→σ){body:σ→DT (σ ⊕ ρ)}(p:α→Bool)(g:Bool→ρ)
  (hstep:∀i:Nat,i<l.length→(body (enc (i:Int))).G (bif p (l.getD i d) then .inr (g true) else .inl (enc ((i+1:Nat):Int))))
  (hend:(body (enc (l.length:Int))).G (.inr (g false))):(DT.loop (enc 0) body).G (g (l.any p)):=by
 refine iU l d (fun i (_:Unit)=>enc i) (fun _ a=>bif p a then .inr (g true) else .inl ()) (fun _=>g false) (fun _ _=>True) (fun i b hi _=>?_) (fun b _=>hend) (b0:=()) trivial (qBR _ g _)
 have:= hstep i hi
 cases hc:p (l.getD i d)<;>rw[hc] at this<;>simp only[cond_true,cond_false]
 ·exact⟨trivial,this⟩
 ·exact this
def qIV(s:Se)(path:B)(label:Int):Int :=
 bif s.apps.any (fun a=>live a&&a.queue==path&&a.asks.any fun x=>x.label==label&&decide (w64 (x.size.mem+(gL s path label true 0).mem)≤(gG s path label true).mem))
 then lo2 (rQ s path label).mem (w64 ((gG s path label true).mem-(gL s path label true 0).mem)) else 0
theorem zCd{s:Se}{path:B}(label:Int)(h:dH s)(hu:qHw s.conf)(hp:path.length≤1000000000):qAZ s path label=true∧qDz s path label=(qIV s path label,()):=zBD (by
 unfold qN8 qIV
 have d1:=yB label true h hu hp
 have d2:=nD path label true 0 h
 have d3:=qIf path label h
 refine aH d2.1 (aH d1.1 ?_)
 rw[d1.2,d2.2]
 simp only[d3.1,d3.2]
 have hN:=h.apps
 have e:∀b:Bool,((bif b then lo2 (rQ s path label).mem (w64 ((gG s path label true).mem-(gL s path label true 0).mem)) else 0,()):Int×Unit)=(fun b:Bool=>((bif b then lo2 (rQ s path label).mem (w64 ((gG s path label true).mem-(gL s path label true 0).mem)) else 0,()):Int×Unit)) b:=fun _=>rfl
 rw[e]
 refine zGS s.apps dAp (fun i=>(i,())) (fun a=>live a&&a.queue==path&&a.asks.any fun x=>x.label==label&&decide (w64 (x.size.mem+(gL s path label true 0).mem)≤(gG s path label true).mem)) (fun b:Bool=>((bif b then lo2 (rQ s path label).mem (w64 ((gG s path label true).mem-(gL s path label true 0).mem)) else 0,()):Int×Unit)) (fun i hi=>?_) (aF ?_)
 ·refine bW (aY hi) (aH (bB hi) ?_)
  have hx:=qYT h hi
  simp only[di,(lM _).1,(lM _).2,aD hi hN,cond_true]
  cases hc:live (s.apps.getD i dAp)&&(s.apps.getD i dAp).queue==path with
  | false =>
   simp only[l9,cond_false]
   refine DT.pF.2 ⟨1,.inr (.inl (((i+1:Nat):Int),())),aF ?_,rfl⟩
   simp only[sS]
   cases decide ((0:Int)<((s.apps.getD i dAp).asks.length:Int))<;>cases hl:live (s.apps.getD i dAp)<;>cases hq:(s.apps.getD i dAp).queue==path<;>(try rfl)
   rw[hl,hq] at hc;cases hc
  | true =>
   have hl:live (s.apps.getD i dAp)=true:=(o6.1 hc).1
   have hq:((s.apps.getD i dAp).queue==path)=true:=(o6.1 hc).2
   simp only[jl,hl,hq]
   refine qIe (s.apps.getD i dAp).asks dAk (fun k=>(k,())) (fun x=>x.label==label&&decide (w64 (x.size.mem+(gL s path label true 0).mem)≤(gG s path label true).mem)) (fun b:Bool=>(bif b then Sum.inr (lo2 (rQ s path label).mem (w64 ((gG s path label true).mem-(gL s path label true 0).mem)),()) else Sum.inl (((i+1:Nat):Int),()))) (fun k hk=>?_) ?_
   ·simp only[sS,bB hk,aY hk,aD hk hx]
    cases ((s.apps.getD i dAp).asks.getD k dAk).label==label<;>(try rfl)
    cases decide (w64 (((s.apps.getD i dAp).asks.getD k dAk).size.mem+(gL s path label true 0).mem)≤(gG s path label true).mem)<;>rfl
   ·simp only[sS,bE]
 ·simp only[sS,bE])
theorem qC1{α β:Type}(g:α→List β){x:β}:∀(l:List α) (v:List β),x∈l.foldl (fun out k=>out++g k) v→x∈v∨∃a∈l,x∈g a
 | [],v,h=>.inl h
 | a::l,v,h=>by
  rcases qC1 g l _ h with e | ⟨b,hb,e⟩
  ·rcases dz.1 e with e | e
   ·exact .inl e
   ·exact .inr ⟨a,j4,e⟩
  ·exact .inr ⟨b,gy _ hb,e⟩
theorem qLc{s:Se}{label:Int}:∀(n:Nat) (p:B) (mem:Int) (x:Sh),x∈uK s label n p mem→x.path=p∨∃q∈s.conf.queues,q.path=x.path
 | 0,p,mem,x,h=>by cases h
 | n+1,p,mem,x,h=>by
  unfold uK at h
  cases hz:((fG s.conf p).length:Int)==0 with
  | true=>rw[hz] at h;simp at h;rw[h];exact .inl rfl
  | false =>
   rw[hz] at h
   simp only[cond_false] at h
   rcases qC1 _ _ _ h with e | ⟨i,hi,e⟩
   ·cases e
   ·have hi:i<(fG s.conf p).length:=by simpa using hi
    rcases qLc n _ _ x e with e2 | e2
    ·obtain⟨_,_,q,hq,e3⟩:=rU (bL (d:=[]) hi)
     exact .inr ⟨q,hq,by rw[e2,e3]⟩
    ·exact .inr e2
theorem qIi{α:Type}(p:α→α→Bool){b:α}:∀(l v:List α),b∈l.foldl (fun out a=>qDR (p a) a out) v→b∈v∨b∈l
 | [],v,h=>.inl h
 | a::l,v,h=>by
  rcases qIi p l _ h with e | e
  ·rcases qLa e with e | e
   ·exact .inr (by rw[e];exact j4)
   ·exact .inl e
  ·exact .inr (gy _ e)
theorem qMg{s:Se}{label:Int}{x:Sh}(h:dH s)(hx:x∈bT s label):x.path.length≤1000000000:=by
 rcases qIi (fun(x y:Sh)=>Op.bytesLess y.path x.path) _ _ hx with e | e
 ·cases e
 ·rcases qLc 6 _ _ x e with e | ⟨q,hq,e⟩
  ·rw[e];decide
  ·rw[←e];exact(h.qu q hq).2
def qPH(s:Se)(label:Int):Int :=
 (bT s label).foldl (fun v x=>w64 (v+qIV s x.path label)) (w64 (0-if 0>w64 ((gB s label).mem-(gL s dZ label true 0).mem) then 0 else w64 ((gB s label).mem-(gL s dZ label true 0).mem)))
def qLd(s:Se)(label:Int)(l:List Int)(x:Sh):Int:=w64 (w64 ((gL s x.path label true 0).mem-x.mem)-qCt s x.path label l)
def yD(s:Se)(label:Int)(l:List Int)(v:Int×Ct)(x:Sh):Int×Ct :=
 bif (nE s x.path label l).2&&decide (qLd s label l x>v.1) then(qLd s label l x,(nE s x.path label l).1) else v
def lN(s:Se)(label:Int)(l:List Int):Int×Ct:=(bT s label).foldl (yD s label l) (0,dCt)
def qLe(s:Se)(label:Int):Nat→List Int→List Int
 | 0,l=>l
 | n+1,l=>bif decide (qCt s [] label l<qPH s label) then(bif (lN s label l).1==0 then l else qLe s label n (l++[(lN s label l).2.id])) else l
def qEA(s:Se)(l:List Int):Nat:=(s.conts.filter fun c=>!uV l c.id).length
def qBi(s:Se)(label:Int):List Int:=qLe s label (s.conts.length+1) []
theorem qPI(s:Se)(path:B)(label:Int)(l:List Int)(h:(nE s path label l).2=true):(nE s path label l).1∈s.conts∧uV l (nE s path label l).1.id=false:=by
 unfold nE at h ⊢
 have: ∀(cs:List Ct) (v:Ct×Bool),(∀c∈cs,c∈s.conts)→(v.2=true→v.1∈s.conts∧uV l v.1.id=false)→(cs.foldl (rR s path label l) v).2=true→(cs.foldl (rR s path label l) v).1∈s.conts∧uV l (cs.foldl (rR s path label l) v).1.id=false:=by
  intro cs
  induction cs with
  | nil=>intro v _ hv h;exact hv h
  | cons c cs ih =>
   intro v hc hv h
   refine ih _ (fun b hb=>hc b (gy _ hb)) ?_ h
   unfold rR
   cases h1:c.label != label||!(uF s c==path)||c.notice != 0||uV l c.id with
   | true=>exact hv
   | false =>
    cases h2 : !v.2||v.1.master&&!c.master||v.1.master==c.master&&decide (c.id>v.1.id) with
    | false=>exact hv
    | true =>
     intro _
     refine⟨hc c j4,?_⟩
     simp at h1
     exact h1.2
 exact this _ _ (fun c hc=>hc) (fun h=>by cases h) h
theorem qLf(s:Se)(label:Int)(l:List Int):0≤(lN s label l).1∧((lN s label l).1=0∨((lN s label l).2∈s.conts∧uV l (lN s label l).2.id=false)):=by
 unfold lN
 have: ∀(xs:List Sh) (v:Int×Ct),(0≤v.1∧(v.1=0∨(v.2∈s.conts∧uV l v.2.id=false)))→(0≤(xs.foldl (yD s label l) v).1∧((xs.foldl (yD s label l) v).1=0∨((xs.foldl (yD s label l) v).2∈s.conts∧uV l (xs.foldl (yD s label l) v).2.id=false))):=by
  intro xs
  induction xs with
  | nil=>exact fun v h=>h
  | cons x xs ih =>
   intro v hv
   refine ih _ ?_
   unfold yD
   cases h1:(nE s x.path label l).2 with
   | false=>exact hv
   | true =>
    cases h2:decide (qLd s label l x>v.1) with
    | false=>exact hv
    | true =>
     simp at h2
     exact⟨by show 0≤qLd s label l x;omega,.inr (qPI s x.path label l h1)⟩
 exact this _ _ ⟨pq 0,.inl rfl⟩
theorem qNT{s:Se}{l:List Int}{c:Ct}(hc:c∈s.conts)(hn:uV l c.id=false):qEA s (l++[c.id])<qEA s l:=by
 unfold qEA
 have h1:∀x:Ct,(!uV (l++[c.id]) x.id)=(!uV l x.id&&x.id != c.id):=by
  intro x
  unfold uV
  rw[List.any_append]
  simp
  grind
 have h2:(s.conts.filter fun x=>!uV (l++[c.id]) x.id)=(s.conts.filter fun x=>!uV l x.id).filter fun x=>x.id != c.id:=by
  rw[List.filter_filter]
  congr 1
  funext x
  rw[h1,Bool.and_comm]
 rw[h2]
 refine r9.2 ⟨c,?_,by simp⟩
 rw[l7]
 exact⟨hc,by rw[hn];rfl⟩
theorem zGT{s:Se}(label:Int)(h:dH s)(hc:yT s.conf)(hn:s.conts.length≤100000000):qD4 s label=true∧qFY s label=(qBi s label,()):=zGu (by
 unfold qSZ
 have hl:=qGj label h hc
 have hlp:∀x∈bT s label,x.path.length≤1000000000:=fun x hx=>qMg h hx
 have hu0:=nD dZ label true 0 h
 refine aH (qBh label h hc).1 (aH (aM.2 h) ?_)
 simp only[qCx,aK]
 refine aH hu0.1 ?_
 rw[(qBh label h hc).2,hu0.2]
 simp only[]
 have hN:(bT s label).length≤1000000000:=by omega
 refine aN (qPH s label,()) (jZ (bT s label) dSh (fun i (v:Int)=>(v,i,())) (fun v x=>w64 (v+qIV s x.path label)) (fun v=>Sum.inl (v,())) (fun _ _=>True) (fun i b hi _=>⟨trivial,?_⟩) (fun b _=>?_) trivial) ?_
 ·have hq:=zCd label h hc.up (hlp _ (bL (d:=dSh) hi))
  simp only[sS,bB hi,aY hi,aD hi hN,hq.1,hq.2]
 ·simp only[sS,bE]
 ·refine qX (fun st=>∃(l:List Int) (n:Nat),st=(l,())∧qEA s l<n∧qLe s label n l=qBi s label∧l.length+qEA s l≤s.conts.length) (fun st=>qEA s st.1) ?_ ⟨[],s.conts.length+1,rfl,Nat.lt_succ_of_le (gp _ _),rfl,by
   rw[gq,dm];exact gp _ _⟩
  rintro _ ⟨l,n,rfl,hln,hp,hll⟩
  obtain⟨m,rfl⟩:∃m,n=m+1:=⟨n-1,by omega⟩
  have hl1:l.length≤1000000000:=by omega
  have es:@aO Int 0 (0+l.length) l=l:=by rw[dm];exact eB _
  have hbl:(Nat.ble (0+l.length) l.length&&true)=true:=by simp only[dm,fI,fq]
  have hbl2:Nat.ble (0+l.length) l.length=true:=by simp only[dm,fI]
  have hm:=qKX [] label h hl1
  simp only[qLe] at hp
  cases hc1:decide (qCt s [] label l<qPH s label) with
  | false =>
   rw[hc1] at hp
   have hp:l=qBi s label:=hp
   right
   rw[←hp]
   refine aF ?_
   simp only[dD,eG,cB,hbl,hbl2,cond_true,es,hm.1,hm.2,hc1,cond_false,uy]
  | true =>
   rw[hc1] at hp
   simp only[cond_true] at hp
   have body:∀{σ ρ:Type} {x:σ ⊕ ρ} {t:Int×(Ct×Unit)×Unit→DT (σ ⊕ ρ)},(t ((lN s label l).1,((lN s label l).2,()),())).G x→(DT.join (loop ((0:Int),(0:Int),(dCt,()),()) fun(s_3:Int×Int×(Ct×Unit)×Unit)=>br (decide (s_3.2.1<((bT s label).length:Int))) ((need (ixB s_3.2.1 ((bT s label).length:Int)) (need (gF s (List.getD (bT s label) (Int.toNat s_3.2.1) dSh).path label true (0:Int)) (need (ixB s_3.2.1 ((bT s label).length:Int)) (need (Nat.ble (0+l.length) l.length&&true) (need (oP s (List.getD (bT s label) (Int.toNat s_3.2.1) dSh).path label (@aO Int 0 (0+l.length) l)) (need (Nat.ble (0+l.length) l.length&&true) (need (tH s (List.getD (bT s label) (Int.toNat s_3.2.1) dSh).path label (@aO Int 0 (0+l.length) l)) (br (rH s (List.getD (bT s label) (Int.toNat s_3.2.1) dSh).path label (@aO Int 0 (0+l.length) l)).2.1 (br (decide (w64 (w64 ((iC s (List.getD (bT s label) (Int.toNat s_3.2.1) dSh).path label true (0:Int)).1.mem-(List.getD (bT s label) (Int.toNat s_3.2.1) dSh).mem)-(nX s (List.getD (bT s label) (Int.toNat s_3.2.1) dSh).path label (@aO Int 0 (0+l.length) l)).1)>s_3.1)) (ret (Sum.inl (w64 (w64 ((iC s (List.getD (bT s label) (Int.toNat s_3.2.1) dSh).path label true (0:Int)).1.mem-(List.getD (bT s label) (Int.toNat s_3.2.1) dSh).mem)-(nX s (List.getD (bT s label) (Int.toNat s_3.2.1) dSh).path label (@aO Int 0 (0+l.length) l)).1),((rH s (List.getD (bT s label) (Int.toNat s_3.2.1) dSh).path label (@aO Int 0 (0+l.length) l)).1,()),()))) (ret (Sum.inl (s_3.1,((s_3.2.2.1).1,()),())))) (ret (Sum.inl (s_3.1,((s_3.2.2.1).1,()),()))))))))))).join fun(s_4:Int×(Ct×Unit)×Unit)=>ret (Sum.inl (s_4.1,w64 (s_3.2.1+(1:Int)),(s_4.2.1.1,()),()))) (ret (Sum.inr (Sum.inl (s_3.1,((s_3.2.2.1).1,()),())))):DT ((Int×(Ct×Unit)×Unit) ⊕ (σ ⊕ ρ))) t).G x:=by
    intro σ ρ x t ht
    refine aN ((lN s label l).1,((lN s label l).2,()),()) (jZ (bT s label) dSh (fun i (v:Int×Ct)=>(v.1,i,(v.2,()),())) (yD s label l) (fun v=>Sum.inl (v.1,(v.2,()),())) (fun _ _=>True) (fun i v hi _=>⟨trivial,?_⟩) (fun v _=>?_) (b0:=(0,dCt)) trivial) ht
    ·have a1:=nD (List.getD (bT s label) i dSh).path label true 0 h
     have a2:=qKX (List.getD (bT s label) i dSh).path label h hl1
     have a3:=qWg (List.getD (bT s label) i dSh).path label h hl1
     rw[es]
     have hbl3:(Nat.ble (0+l.length) l.length&&true)=true:=hbl
     simp only[eG,dD,cB,jM,di,bB hi,aY hi,aD hi hN,cond_true,hbl3,a1.1,a1.2,a2.1,a2.2,a3.1,a3.2,yD,qLd]
     cases (nE s (List.getD (bT s label) i dSh).path label l).2 with
     | false=>rfl
     | true =>
      simp only[jl,cond_true]
      grind [iB,iV]
    ·simp only[sS,bE]
   have hb:=qLf s label l
   cases hc2:(lN s label l).1==0 with
   | true =>
    rw[hc2] at hp
    have hp:l=qBi s label:=hp
    right
    rw[←hp]
    refine aH hbl (aH (by rw[es];exact hm.1) (bW (by rw[es,hm.2];exact hc1) (body ?_)))
    refine aF ?_
    simp only[dD,eG,cB,hbl2,cond_true,es,hc2]
   | false =>
    rw[hc2] at hp
    simp only[cond_false] at hp
    left
    have hne:(lN s label l).1≠0:=by simpa using hc2
    have hmem:=hb.2.resolve_left hne
    have hlt:=qNT hmem.1 hmem.2
    refine⟨(l++[(lN s label l).2.id],()),?_,⟨l++[(lN s label l).2.id],m,rfl,by omega,hp,by rw[dh,gz];omega⟩,hlt⟩
    refine aH hbl (aH (by rw[es];exact hm.1) (bW (by rw[es,hm.2];exact hc1) (body ?_)))
    refine aF ?_
    simp only[sS,hc2,dK (show l.length+1≤1000000000 by omega) (by decide:8≤100000)])
end Go.Proofs.YtlmkakccmpncjaaGreatDoor
