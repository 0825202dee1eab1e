/- Part of the proof. No conditions. -/
import Derived.Test.YtehpnjmgjmkjaaaGreatDoorBe
namespace Go.Proofs.YtehpnjmgjmkjaaaGreatDoor
open Go Go.W Go.Proofs
open Go.W.DT (ret need br bad loop join)
set_option maxRecDepth 100000
structure yF(c:Cf):Prop where
 up:qGW c
 deep:Deep c 6 fG
 few:c.queues.length≤16
def bV(s:Se)(label:Int):List Sh:=(tT s label 6 fG (dJ s label).mem).foldl (fun out x=>qD6 (fun y=>Op.bytesLess y.path x.path) x out) []
theorem qTG{α:Type}(p:α→α→Bool)(l v:List α):(l.foldl (fun out a=>qD6 (p a) a out) v).length=v.length+l.length:=by
 induction l generalizing v with
 | nil=>rfl
 | cons a l ih=>rw[List.foldl,ih,qCi,List.length_cons];omega
theorem qFB{s:Se}(label:Int)(h:dV s)(hc:yF s.conf):(bV s label).length≤16777216:=by
 unfold bV
 refine Nat.le_trans (Nat.le_of_eq (qTG (fun x y:Sh=>Op.bytesLess y.path x.path) _ [])) ?_
 have:= (qVZ label h hc.up hc.few 6 fG (dJ s label).mem (by decide) hc.deep 9 (by decide)).2
 simpa using this
theorem qAU{s:Se}(label:Int)(h:dV s)(hc:yF s.conf):sO s label=true∧bP s label=(bV s label,()):=qVO (by
 unfold qLn bV
 obtain⟨hd,hdl⟩:=qVZ label h hc.up hc.few 6 fG (dJ s label).mem (by decide) hc.deep 9 (by decide)
 refine bB (aO.2 h) ?_
 simp only[aN,qCg]
 have e1:qGM s fG label (dJ s label).mem=true:=hd.1
 have e2:sN s fG label (dJ s label).mem=(tT s label 6 fG (dJ s label).mem,()):=hd.2
 refine bB e1 ?_
 rw[e2]
 simp only[]
 generalize tT s label 6 fG (dJ s label).mem=ks at hdl ⊢
 have hN:ks.length≤16777216:=hdl
 have hN2:ks.length≤1000000000:=by omega
 refine pV ks dSh (fun i (v:List Sh)=>(v,i,())) (fun out x=>qD6 (fun y=>Op.bytesLess y.path x.path) x out) (fun v=>(v,())) (fun i v=>v.length≤i) (fun i v hi hI=>⟨by rw[qCi];omega,?_⟩) (fun v hI=>aF ?_) (b0:=[]) (Nat.le_refl 0)
 ·have hI:v.length≤i:=hI
  refine fQ (bF hi) (aT (qD6 (fun y=>Op.bytesLess y.path (ks.getD i dSh).path) (ks.getD i dSh) v,()) ?_ (aF (by simp only[sS,aG hi hN2])))
  refine aT ((((v.takeWhile fun y=>Op.bytesLess y.path (ks.getD i dSh).path).length:Nat):Int),()) (qL0 v dSh (fun k=>(k,())) (fun y=>Op.bytesLess y.path (ks.getD i dSh).path) (fun k=>Sum.inl ((k:Int),())) (fun k hk=>?_) ?_) ?_
  ·simp only[sS,qCa,bF hk,qCe hk,bG hi,aG hk (show v.length≤1000000000 by omega)]
   cases Op.bytesLess (v.getD k dSh).path (ks.getD i dSh).path<;>rfl
  ·simp only[sS,bM]
  ·have hkk:=qF9 (l:=v) (fun y=>Op.bytesLess y.path (ks.getD i dSh).path)
   have hv1:v.length≤1000000000:=by omega
   have hv3:(v.take (v.takeWhile fun y=>Op.bytesLess y.path (ks.getD i dSh).path).length++[ks.getD i dSh]).length+v.length≤1000000000:=by rw[List.length_append,List.length_take,List.length_singleton];omega
   refine aT (v.take (v.takeWhile fun y=>Op.bytesLess y.path (ks.getD i dSh).path).length,()) (aF (zKh hkk hv1 (by decide))) ?_
   refine aT (v.take (v.takeWhile fun y=>Op.bytesLess y.path (ks.getD i dSh).path).length++[ks.getD i dSh],()) (bB (bG hi) (aF ?_)) ?_
   ·simp only[Int.toNat_natCast]
    exact zAJ (by rw[List.length_take];omega) (by decide)
   ·rw[←qID]
    exact aF (zKi hkk hv3 (by decide))
 ·simp only[sS,bM])
def qTH(s:Se)(label:Int)(path:B):Int:=bif (findD dSh (fun x=>x.path==path) (bV s label)).2 then(findD dSh (fun x=>x.path==path) (bV s label)).1.mem else 0
theorem zHI{s:Se}(label:Int)(path:B)(h:dV s)(hc:yF s.conf):qF3 s label path=true∧qIA s label path=(qTH s label path,()):=zHz (by
 unfold qYl
 have hl:=qFB label h hc
 refine bB (qAU label h hc).1 ?_
 rw[(qAU label h hc).2]
 simp only[]
 unfold qTH
 generalize bV s label=ks at hl ⊢
 have hN:ks.length≤1000000000:=by omega
 refine lN ks dSh (fun i (_:Unit)=>(i,())) (fun _ a=>bif a.path==path then .inr (a.mem,()) else .inl ()) (fun _=>(0,())) (fun _ _=>True) (fun i b hi _=>?_) (fun b _=>?_) (b0:=()) trivial (fD (fun x:Sh=>x.path==path) (fun a b=>(bif b then a.mem else 0,())) dSh ks)
 ·simp only[sS,bG hi,bF hi,aG hi hN]
  cases (ks.getD i dSh).path==path with
  | true=>rfl
  | false=>exact⟨trivial,rfl⟩
 ·simp only[sS,bM])
theorem zKj{α σ ρ:Type}(l:List α)(d:α)(enc:Int→σ){body:σ→DT (σ ⊕ ρ)}(p:α→Bool)(g:Bool→ρ)
  (hstep:∀i:Nat,i<l.length→(body (enc (i:Int))).G (bif p (l.getD i d) then .inr (g true) else .inl (enc ((i+1:Nat):Int))))
  (hend:(body (enc (l.length:Int))).G (.inr (g false))):(DT.loop (enc 0) body).G (g (l.any p)):=by
 refine jU l d (fun i (_:Unit)=>enc i) (fun _ a=>bif p a then .inr (g true) else .inl ()) (fun _=>g false) (fun _ _=>True) (fun i b hi _=>?_) (fun b _=>hend) (b0:=()) trivial (zG _ g _)
 have:= hstep i hi
 cases hc:p (l.getD i d)<;>rw[hc] at this<;>simp only[cond_true,cond_false]
 ·exact⟨trivial,this⟩
 ·exact this
def qIF(s:Se)(path:B)(label:Int):Int :=
 bif s.apps.any (fun a=>live a&&a.queue==path&&a.asks.any fun x=>x.label==label&&decide (w64 (x.size.mem+(gV s path label true 0).mem)≤(gM s path label true).mem))
 then lo2 (qY s path label).mem (w64 ((gM s path label true).mem-(gV s path label true 0).mem)) else 0
theorem zAO{s:Se}{path:B}(label:Int)(h:dV s)(hu:qGW s.conf)(hp:path.length≤1000000000):qAM s path label=true∧qDh s path label=(qIF s path label,()):=zA2 (by
 unfold qOf qIF
 have d1:=xH label true h hu hp
 have d2:=nP path label true 0 h
 have d3:=qHQ path label h
 refine bB d2.1 (bB d1.1 ?_)
 rw[d1.2,d2.2]
 simp only[d3.1,d3.2]
 have hN:=h.apps
 have e:∀b:Bool,((bif b then lo2 (qY s path label).mem (w64 ((gM s path label true).mem-(gV s path label true 0).mem)) else 0,()):Int×Unit)=(fun b:Bool=>((bif b then lo2 (qY s path label).mem (w64 ((gM s path label true).mem-(gV s path label true 0).mem)) else 0,()):Int×Unit)) b:=fun _=>rfl
 rw[e]
 refine zKj s.apps dAp (fun i=>(i,())) (fun a=>live a&&a.queue==path&&a.asks.any fun x=>x.label==label&&decide (w64 (x.size.mem+(gV s path label true 0).mem)≤(gM s path label true).mem)) (fun b:Bool=>((bif b then lo2 (qY s path label).mem (w64 ((gM s path label true).mem-(gV s path label true 0).mem)) else 0,()):Int×Unit)) (fun i hi=>?_) (aF ?_)
 ·refine fQ (bF hi) (bB (bG hi) ?_)
  have hx:=qYz h hi
  simp only[Int.toNat_natCast,(lY _).1,(lY _).2,aG hi hN,cond_true]
  cases hc:live (s.apps.getD i dAp)&&(s.apps.getD i dAp).queue==path with
  | false =>
   simp only[Bool.false_and,cond_false]
   refine DT.qN.2 ⟨1,.inr (.inl (((i+1:Nat):Int),())),aF ?_,rfl⟩
   simp only[sS]
   cases decide ((0:Int)<((s.apps.getD i dAp).asks.length:Int))<;>cases hl:live (s.apps.getD i dAp)<;>cases hq:(s.apps.getD i dAp).queue==path<;>(try rfl)
   rw[hl,hq] at hc;cases hc
  | true =>
   have hl:live (s.apps.getD i dAp)=true:=(Bool.and_eq_true_iff.1 hc).1
   have hq:((s.apps.getD i dAp).queue==path)=true:=(Bool.and_eq_true_iff.1 hc).2
   simp only[Bool.true_and,hl,hq]
   refine qHP (s.apps.getD i dAp).asks dAk (fun k=>(k,())) (fun x=>x.label==label&&decide (w64 (x.size.mem+(gV s path label true 0).mem)≤(gM s path label true).mem)) (fun b:Bool=>(bif b then Sum.inr (lo2 (qY s path label).mem (w64 ((gM s path label true).mem-(gV s path label true 0).mem)),()) else Sum.inl (((i+1:Nat):Int),()))) (fun k hk=>?_) ?_
   ·simp only[sS,bG hk,bF hk,aG hk hx]
    cases ((s.apps.getD i dAp).asks.getD k dAk).label==label<;>(try rfl)
    cases decide (w64 (((s.apps.getD i dAp).asks.getD k dAk).size.mem+(gV s path label true 0).mem)≤(gM s path label true).mem)<;>rfl
   ·simp only[sS,bM]
 ·simp only[sS,bM])
theorem qCl{α β:Type}(g:α→List β){x:β}:∀(l:List α) (v:List β),x∈l.foldl (fun out k=>out++g k) v→x∈v∨∃a∈l,x∈g a
 | [],v,h=>.inl h
 | a::l,v,h=>by
  rcases qCl g l _ h with e | ⟨b,hb,e⟩
  ·rcases List.mem_append.1 e with e | e
   ·exact .inl e
   ·exact .inr ⟨a,List.mem_cons_self,e⟩
  ·exact .inr ⟨b,List.mem_cons_of_mem _ hb,e⟩
theorem qL6{s:Se}{label:Int}:∀(n:Nat) (p:B) (mem:Int) (x:Sh),x∈tT s label n p mem→x.path=p∨∃q∈s.conf.queues,q.path=x.path
 | 0,p,mem,x,h=>by cases h
 | n+1,p,mem,x,h=>by
  unfold tT at h
  cases hz:((bO s.conf p).length:Int)==0 with
  | true=>rw[hz] at h;simp at h;rw[h];exact .inl rfl
  | false =>
   rw[hz] at h
   simp only[cond_false] at h
   rcases qCl _ _ _ h with e | ⟨i,hi,e⟩
   ·cases e
   ·have hi:i<(bO s.conf p).length:=by simpa using hi
    rcases qL6 n _ _ x e with e2 | e2
    ·obtain⟨_,_,q,hq,e3⟩:=rE (bT (d:=[]) hi)
     exact .inr ⟨q,hq,by rw[e2,e3]⟩
    ·exact .inr e2
theorem qHT{α:Type}(p:α→α→Bool){b:α}:∀(l v:List α),b∈l.foldl (fun out a=>qD6 (p a) a out) v→b∈v∨b∈l
 | [],v,h=>.inl h
 | a::l,v,h=>by
  rcases qHT p l _ h with e | e
  ·rcases qL3 e with e | e
   ·exact .inr (by rw[e];exact List.mem_cons_self)
   ·exact .inl e
  ·exact .inr (List.mem_cons_of_mem _ e)
theorem qMz{s:Se}{label:Int}{x:Sh}(h:dV s)(hx:x∈bV s label):x.path.length≤1000000000:=by
 rcases qHT (fun(x y:Sh)=>Op.bytesLess y.path x.path) _ _ hx with e | e
 ·cases e
 ·rcases qL6 6 _ _ x e with e | ⟨q,hq,e⟩
  ·rw[e];decide
  ·rw[←e];exact(h.qu q hq).2
def qQw(s:Se)(label:Int):Int :=
 (bV s label).foldl (fun v x=>w64 (v+qIF s x.path label)) (w64 (0-if 0>w64 ((dJ s label).mem-(gV s fG label true 0).mem) then 0 else w64 ((dJ s label).mem-(gV s fG label true 0).mem)))
def qL7(s:Se)(label:Int)(l:List Int)(x:Sh):Int:=w64 (w64 ((gV s x.path label true 0).mem-x.mem)-qCc s x.path label l)
def xJ(s:Se)(label:Int)(l:List Int)(v:Int×Ct)(x:Sh):Int×Ct :=
 bif (nQ s x.path label l).2&&decide (qL7 s label l x>v.1) then(qL7 s label l x,(nQ s x.path label l).1) else v
def lZ(s:Se)(label:Int)(l:List Int):Int×Ct:=(bV s label).foldl (xJ s label l) (0,dCt)
def qL8(s:Se)(label:Int):Nat→List Int→List Int
 | 0,l=>l
 | n+1,l=>bif decide (qCc s [] label l<qQw s label) then(bif (lZ s label l).1==0 then l else qL8 s label n (l++[(lZ s label l).2.id])) else l
def qEv(s:Se)(l:List Int):Nat:=(s.conts.filter fun c=>!yC l c.id).length
def qAV(s:Se)(label:Int):List Int:=qL8 s label (s.conts.length+1) []
theorem qQx(s:Se)(path:B)(label:Int)(l:List Int)(h:(nQ s path label l).2=true):(nQ s path label l).1∈s.conts∧yC l (nQ s path label l).1.id=false:=by
 unfold nQ at h ⊢
 have: ∀(cs:List Ct) (v:Ct×Bool),(∀c∈cs,c∈s.conts)→(v.2=true→v.1∈s.conts∧yC l v.1.id=false)→(cs.foldl (qZ s path label l) v).2=true→(cs.foldl (qZ s path label l) v).1∈s.conts∧yC l (cs.foldl (qZ s path label l) v).1.id=false:=by
  intro cs
  induction cs with
  | nil=>intro v _ hv h;exact hv h
  | cons c cs ih =>
   intro v hc hv h
   refine ih _ (fun b hb=>hc b (List.mem_cons_of_mem _ hb)) ?_ h
   unfold qZ
   cases h1:c.label != label||!(tN s c==path)||c.notice != 0||yC l c.id with
   | true=>exact hv
   | false =>
    cases h2 : !v.2||v.1.master&&!c.master||v.1.master==c.master&&decide (c.id>v.1.id) with
    | false=>exact hv
    | true =>
     intro _
     refine⟨hc c List.mem_cons_self,?_⟩
     simp at h1
     exact h1.2
 exact this _ _ (fun c hc=>hc) (fun h=>by cases h) h
theorem qL9(s:Se)(label:Int)(l:List Int):0≤(lZ s label l).1∧((lZ s label l).1=0∨((lZ s label l).2∈s.conts∧yC l (lZ s label l).2.id=false)):=by
 unfold lZ
 have: ∀(xs:List Sh) (v:Int×Ct),(0≤v.1∧(v.1=0∨(v.2∈s.conts∧yC l v.2.id=false)))→(0≤(xs.foldl (xJ s label l) v).1∧((xs.foldl (xJ s label l) v).1=0∨((xs.foldl (xJ s label l) v).2∈s.conts∧yC l (xs.foldl (xJ s label l) v).2.id=false))):=by
  intro xs
  induction xs with
  | nil=>exact fun v h=>h
  | cons x xs ih =>
   intro v hv
   refine ih _ ?_
   unfold xJ
   cases h1:(nQ s x.path label l).2 with
   | false=>exact hv
   | true =>
    cases h2:decide (qL7 s label l x>v.1) with
    | false=>exact hv
    | true =>
     simp at h2
     exact⟨by show 0≤qL7 s label l x;omega,.inr (qQx s x.path label l h1)⟩
 exact this _ _ ⟨Int.le_refl 0,.inl rfl⟩
theorem qO0{s:Se}{l:List Int}{c:Ct}(hc:c∈s.conts)(hn:yC l c.id=false):qEv s (l++[c.id])<qEv s l:=by
 unfold qEv
 have h1:∀x:Ct,(!yC (l++[c.id]) x.id)=(!yC l x.id&&x.id != c.id):=by
  intro x
  unfold yC
  rw[List.any_append]
  simp
  grind
 have h2:(s.conts.filter fun x=>!yC (l++[c.id]) x.id)=(s.conts.filter fun x=>!yC l x.id).filter fun x=>x.id != c.id:=by
  rw[List.filter_filter]
  congr 1
  funext x
  rw[h1,Bool.and_comm]
 rw[h2]
 refine List.length_filter_lt_length_iff_exists.2 ⟨c,?_,by simp⟩
 rw[List.mem_filter]
 exact⟨hc,by rw[hn];rfl⟩
theorem zFk{s:Se}(label:Int)(h:dV s)(hc:yF s.conf)(hn:s.conts.length≤100000000):qDm s label=true∧wD s label=(qAV s label,()):=zED (by
 unfold qTv
 have hl:=qFB label h hc
 have hlp:∀x∈bV s label,x.path.length≤1000000000:=fun x hx=>qMz h hx
 have hu0:=nP fG label true 0 h
 refine bB (qAU label h hc).1 (bB (aO.2 h) ?_)
 simp only[qCg,aN]
 refine bB hu0.1 ?_
 rw[(qAU label h hc).2,hu0.2]
 simp only[]
 have hN:(bV s label).length≤1000000000:=by omega
 refine aT (qQw s label,()) (kF (bV s label) dSh (fun i (v:Int)=>(v,i,())) (fun v x=>w64 (v+qIF s x.path label)) (fun v=>Sum.inl (v,())) (fun _ _=>True) (fun i b hi _=>⟨trivial,?_⟩) (fun b _=>?_) trivial) ?_
 ·have hq:=zAO label h hc.up (hlp _ (bT (d:=dSh) hi))
  simp only[sS,bG hi,bF hi,aG hi hN,hq.1,hq.2]
 ·simp only[sS,bM]
 ·refine qP (fun st=>∃(l:List Int) (n:Nat),st=(l,())∧qEv s l<n∧qL8 s label n l=qAV s label∧l.length+qEv s l≤s.conts.length) (fun st=>qEv s st.1) ?_ ⟨[],s.conts.length+1,rfl,Nat.lt_succ_of_le (List.length_filter_le _ _),rfl,by
   rw[List.length_nil,Nat.zero_add];exact List.length_filter_le _ _⟩
  rintro _ ⟨l,n,rfl,hln,hp,hll⟩
  obtain⟨m,rfl⟩:∃m,n=m+1:=⟨n-1,by omega⟩
  have hl1:l.length≤1000000000:=by omega
  have es:@aH Int 0 (0+l.length) l=l:=by rw[Nat.zero_add];exact gL _
  have hbl:(Nat.ble (0+l.length) l.length&&true)=true:=by simp only[Nat.zero_add,nN,Bool.and_true]
  have hbl2:Nat.ble (0+l.length) l.length=true:=by simp only[Nat.zero_add,nN]
  have hm:=qLz [] label h hl1
  simp only[qL8] at hp
  cases hc1:decide (qCc s [] label l<qQw s label) with
  | false =>
   rw[hc1] at hp
   have hp:l=qAV s label:=hp
   right
   rw[←hp]
   refine aF ?_
   simp only[dN,fC,dE,hbl2,cond_true,es,hm.1,hm.2,hc1,cond_false,Bool.and_self]
  | true =>
   rw[hc1] at hp
   simp only[cond_true] at hp
   have body:∀{σ ρ:Type} {x:σ ⊕ ρ} {t:Int×(Ct×Unit)×Unit→DT (σ ⊕ ρ)},(t ((lZ s label l).1,((lZ s label l).2,()),())).G x→(DT.join (loop ((0:Int),(0:Int),(dCt,()),()) fun(s_3:Int×Int×(Ct×Unit)×Unit)=>br (decide (s_3.2.1<((bV s label).length:Int))) ((need (ixB s_3.2.1 ((bV s label).length:Int)) (need (gK s (List.getD (bV s label) (Int.toNat s_3.2.1) dSh).path label true (0:Int)) (need (ixB s_3.2.1 ((bV s label).length:Int)) (need (Nat.ble (0+l.length) l.length&&true) (need (oZ s (List.getD (bV s label) (Int.toNat s_3.2.1) dSh).path label (@aH Int 0 (0+l.length) l)) (need (Nat.ble (0+l.length) l.length&&true) (need (sK s (List.getD (bV s label) (Int.toNat s_3.2.1) dSh).path label (@aH Int 0 (0+l.length) l)) (br (oG s (List.getD (bV s label) (Int.toNat s_3.2.1) dSh).path label (@aH Int 0 (0+l.length) l)).2.1 (br (decide (w64 (w64 ((dD s (List.getD (bV s label) (Int.toNat s_3.2.1) dSh).path label true (0:Int)).1.mem-(List.getD (bV s label) (Int.toNat s_3.2.1) dSh).mem)-(lV s (List.getD (bV s label) (Int.toNat s_3.2.1) dSh).path label (@aH Int 0 (0+l.length) l)).1)>s_3.1)) (ret (Sum.inl (w64 (w64 ((dD s (List.getD (bV s label) (Int.toNat s_3.2.1) dSh).path label true (0:Int)).1.mem-(List.getD (bV s label) (Int.toNat s_3.2.1) dSh).mem)-(lV s (List.getD (bV s label) (Int.toNat s_3.2.1) dSh).path label (@aH Int 0 (0+l.length) l)).1),((oG s (List.getD (bV s label) (Int.toNat s_3.2.1) dSh).path label (@aH Int 0 (0+l.length) l)).1,()),()))) (ret (Sum.inl (s_3.1,((s_3.2.2.1).1,()),())))) (ret (Sum.inl (s_3.1,((s_3.2.2.1).1,()),()))))))))))).join fun(s_4:Int×(Ct×Unit)×Unit)=>ret (Sum.inl (s_4.1,w64 (s_3.2.1+(1:Int)),(s_4.2.1.1,()),()))) (ret (Sum.inr (Sum.inl (s_3.1,((s_3.2.2.1).1,()),())))):DT ((Int×(Ct×Unit)×Unit) ⊕ (σ ⊕ ρ))) t).G x:=by
    intro σ ρ x t ht
    refine aT ((lZ s label l).1,((lZ s label l).2,()),()) (kF (bV s label) dSh (fun i (v:Int×Ct)=>(v.1,i,(v.2,()),())) (xJ s label l) (fun v=>Sum.inl (v.1,(v.2,()),())) (fun _ _=>True) (fun i v hi _=>⟨trivial,?_⟩) (fun v _=>?_) (b0:=(0,dCt)) trivial) ht
    ·have a1:=nP (List.getD (bV s label) i dSh).path label true 0 h
     have a2:=qLz (List.getD (bV s label) i dSh).path label h hl1
     have a3:=qVV (List.getD (bV s label) i dSh).path label h hl1
     rw[es]
     have hbl3:(Nat.ble (0+l.length) l.length&&true)=true:=hbl
     simp only[fC,dN,dE,jJ,Int.toNat_natCast,bG hi,bF hi,aG hi hN,cond_true,hbl3,a1.1,a1.2,a2.1,a2.2,a3.1,a3.2,xJ,qL7]
     cases (nQ s (List.getD (bV s label) i dSh).path label l).2 with
     | false=>rfl
     | true =>
      simp only[Bool.true_and,cond_true]
      grind [iH,iU]
    ·simp only[sS,bM]
   have hb:=qL9 s label l
   cases hc2:(lZ s label l).1==0 with
   | true =>
    rw[hc2] at hp
    have hp:l=qAV s label:=hp
    right
    rw[←hp]
    refine bB hbl (bB (by rw[es];exact hm.1) (fQ (by rw[es,hm.2];exact hc1) (body ?_)))
    refine aF ?_
    simp only[dN,fC,dE,hbl2,cond_true,es,hc2]
   | false =>
    rw[hc2] at hp
    simp only[cond_false] at hp
    left
    have hne:(lZ s label l).1≠0:=by simpa using hc2
    have hmem:=hb.2.resolve_left hne
    have hlt:=qO0 hmem.1 hmem.2
    refine⟨(l++[(lZ s label l).2.id],()),?_,⟨l++[(lZ s label l).2.id],m,rfl,by omega,hp,by rw[List.length_append,List.length_singleton];omega⟩,hlt⟩
    refine bB hbl (bB (by rw[es];exact hm.1) (fQ (by rw[es,hm.2];exact hc1) (body ?_)))
    refine aF ?_
    simp only[sS,hc2,eF (show l.length+1≤1000000000 by omega) (by decide:8≤100000)])
end Go.Proofs.YtehpnjmgjmkjaaaGreatDoor
