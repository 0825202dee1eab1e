/- Part of the proof. No conditions. -/
import Derived.Test.YtehpnjmgjmkjaaaGreatDoorBb
namespace Go.Proofs.YtehpnjmgjmkjaaaGreatDoor
open Go Go.W Go.Proofs
open Go.W.DT (ret need br bad loop join)
set_option maxRecDepth 100000
theorem pV{α β σ ρ:Type}(l:List α)(d:α)(enc:Int→β→σ){body:σ→DT (σ ⊕ ρ)}(f:β→α→β)(fin:β→ρ)(I:Nat→β→Prop)
  (hstep:∀(i:Nat) (b:β),i<l.length→I i b→I (i+1) (f b (l.getD i d))∧(body (enc (i:Int) b)).G (.inl (enc ((i+1:Nat):Int) (f b (l.getD i d)))))
  (hend:∀b,I l.length b→(body (enc (l.length:Int) b)).G (.inr (fin b))) {b0:β} (h0:I 0 b0):(DT.loop (enc 0 b0) body).G (fin (l.foldl f b0)) :=
 jU l d enc (fun b a=>.inl (f b a)) fin I (fun i b hi hI=>hstep i b hi hI) hend h0 (bX f fin l b0)
def eOu(e:Int):Ou:=⟨e,[],[],[],0⟩
def qAT(s:Se)(id state:Int):Se×Ou :=
 bif !(aB s id).2 then(s,eOu 2) else bif !live (aB s id).1 then(s,eOu 14) else((qDF s id state).1,⟨0,[],[],(qDF s id state).2,0⟩)
theorem qT9{s:Se}(id state:Int)(h:SeN 999999999 s):zQ s id state=true∧vX s id state=((qAT s id state).1,(qAT s id state).2,()):=zEz (by
 unfold qTk qAT eOu
 refine aF ?_
 simp only[sS,aN,aO.2 (h.ok (by decide)),uD.2 h,(lY _).1,(lY _).2]
 grind)
def qF7(labels:Int)(v:List Ak)(x:Ak):List Ak ⊕ (List Ak×Int×Unit) :=
 bif qAB x labels != 0 then .inr ([],qAB x labels,()) else bif (qD5 v x).2 != 0 then .inr ([],(qD5 v x).2,()) else .inl (qD5 v x).1
def uG(labels:Int)(l more:List Ak):List Ak×Int×Unit:=scan (qF7 labels) (fun v=>(v,0,())) more l
theorem qOx(l:List Ak)(x:Ak):(qD5 l x).1.length≤8:=by
 unfold qD5
 dsimp only
 generalize (bif !(l.foldl (qBd x) ([],x.count==0)).2 then(l.foldl (qBd x) ([],x.count==0)).1++[{ x with missed:=0 }] else(l.foldl (qBd x) ([],x.count==0)).1)=out
 cases hc:decide ((out.length:Int)>8) with
 | true=>exact Nat.zero_le _
 | false=>simp at hc;simp only[cond_false];omega
theorem zAH{s:Se}{l more:List Ak}(hl:l.length≤1000000000)(hm:more.length≤1000000000):qAD s l more=true∧uU s l more=uG (s.conf.labels.length:Int) l more:=zAv (by
 unfold qNY
 refine lN more dAk (fun i (v:List Ak)=>(v,i,())) (qF7 (s.conf.labels.length:Int)) (fun v=>(v,0,())) (fun _ v=>v.length≤1000000000) (fun i v hi hI=>?_) (fun v hI=>?_) (b0:=l) hl rfl
 ·have h8:=qOx v (more.getD i dAk)
  simp only[sS,bG hi,bF hi,aG hi hm,aN,eX.2 hI,qF7]
  cases h1:qAB (more.getD i dAk) (s.conf.labels.length:Int) != 0 with
  | true=>rfl
  | false =>
   cases h2:(qD5 v (more.getD i dAk)).2 != 0 with
   | true=>rfl
   | false=>exact⟨Nat.le_trans h8 (by decide),rfl⟩
 ·simp only[sS,bM])
theorem qHR{labels:Int}:∀{more l:List Ak},(uG labels l more).1.length≤max l.length 8
 | [],l=>Nat.le_max_left _ _
 | x::more,l=>by
  unfold uG
  simp only[scan]
  unfold qF7
  cases qAB x labels != 0 with
  | true=>exact Nat.zero_le _
  | false =>
   cases (qD5 l x).2 != 0 with
   | true=>exact Nat.zero_le _
   | false =>
    have h1:=qHR (labels:=labels) (more:=more) (l:=(qD5 l x).1)
    have h2:=qOx l x
    refine Nat.le_trans h1 ?_
    omega
def zFa(c:Cf)(label:Int)(least:Bool)(p:B):Int:=bif least then((dO c p).1.caps.getD label.toNat dCp).least else((dO c p).1.caps.getD label.toNat dCp).most
def gM(s:Se)(path:B)(label:Int)(least:Bool):Vec :=
 bif !(dO s.conf path).2||decide (label<0)||decide (label≥(s.conf.labels.length:Int)) then gG
 else(up6 path).dropLast.reverse.foldl (fun v p=>(qCd v (zFa s.conf label least p)).1) (dJ s label)
def qGW(c:Cf):Prop:=∀path:B,(dO c path).2=true→∀p∈(up6 path).dropLast,c.labels.length≤(dO c p).1.caps.length
theorem xH{s:Se}{path:B}(label:Int)(least:Bool)(h:dV s)(hu:qGW s.conf)(hp:path.length≤1000000000):lW s path label least=true∧fP s path label least=(gM s path label least,()):=zHu (by
 unfold qYg gM
 have hc:CfN 1000000000 s.conf:=⟨h.labels,h.queues,h.qu⟩
 refine bB (kW.2 hc) ?_
 simp only[aN]
 cases h1:(dO s.conf path).2 with
 | false=>rfl
 | true =>
 refine bN rfl ?_
 cases h2:decide (label<0) with
 | true=>rfl
 | false =>
 refine bN rfl ?_
 cases h3:decide (label≥(s.conf.labels.length:Int)) with
 | true=>rfl
 | false =>
 refine bN rfl (bB (aO.2 h) (bB (eX.2 hp) ?_))
 simp only[Bool.not_true,Bool.or_false,cond_false]
 have hlen:(up6 path).length≤1000000000:=Nat.le_trans (qQq _) hp
 have hH:=hu path h1
 have hlab:0≤label∧label<(s.conf.labels.length:Int):=by simp at h2 h3;omega
 generalize hL:(up6 path).dropLast=L at hH ⊢
 have hLl:L.length=(up6 path).length-1:=by rw[←hL,List.length_dropLast]
 have hget:∀k,k<L.length→(up6 path).getD k []=L.getD k []:=by
  intro k hk
  rw[←hL] at hk ⊢
  rw[List.length_dropLast] at hk
  simp only[List.getD,List.getElem?_dropLast,if_pos hk]
 refine qP (fun st=>∃(i:Int) (v:Vec),st=(i,(v,()),())∧i<(L.length:Int)∧-2≤i∧(L.take (i+1).toNat).reverse.foldl (fun v p=>(qCd v (zFa s.conf label least p)).1) v=L.reverse.foldl (fun v p=>(qCd v (zFa s.conf label least p)).1) (dJ s label)) (fun st=>(st.1+2).toNat) ?_ ⟨w64 (((up6 path).length:Int)-2),dJ s label,rfl,?_⟩
 ·rintro _ ⟨i,v,rfl,hi1,hi2,hv⟩
  by_cases hi:0≤i
  ·left
   obtain⟨k,rfl⟩:∃k:Nat,i=(k:Int):=⟨i.toNat,by omega⟩
   have hk:k<L.length:=by omega
   have hk2:k<(up6 path).length:=by omega
   have hm:L.getD k []∈L:=bT hk
   have hcl:=hH _ hm
   have e1:ixB label ((dO s.conf (L.getD k [])).1.caps.length:Int)=true:=gZ.2 ⟨by omega,by omega⟩
   have e2:decide ((k:Int)≥0)=true:=by simp
   have e3:w64 ((k:Int)-1)=(k:Int)-1:=by rw[fE]<;>omega
   refine⟨((k:Int)-1,((qCd v (zFa s.conf label least (L.getD k []))).1,()),()),aF ?_,⟨(k:Int)-1,_,rfl,by omega,by omega,?_⟩,by simp only[];omega⟩
   ·simp only[sS,e2,e3,bG hk2,hget k hk,kW.2 hc,e1,(qF6 _ _).1,(qF6 _ _).2,zFa]
    cases least<;>rfl
   ·rw[←hv]
    have e4:((k:Int)-1+1).toNat=k:=by omega
    have e5:((k:Int)+1).toNat=k+1:=by omega
    rw[e4,e5]
    have e6:L.take (k+1)=L.take k++[L.getD k []]:=by
     rw[List.take_add_one]
     simp[List.getD,hk]
    rw[e6,List.reverse_append,List.reverse_singleton,List.singleton_append,List.foldl_cons]
  ·right
   refine aF ?_
   have e2:decide (i≥0)=false:=by simp;omega
   have e3:(i+1).toNat=0:=by omega
   rw[e3] at hv
   simp only[List.take_zero,List.reverse_nil,List.foldl_nil] at hv
   simp only[sS,e2,hv]
 ·have e:w64 (((up6 path).length:Int)-2)=((up6 path).length:Int)-2:=by rw[fE]<;>omega
  rw[e]
  refine⟨by omega,by omega,?_⟩
  have e2:L.take (((up6 path).length:Int)-2+1).toNat=L:=by
   apply List.take_of_length_le
   omega
  rw[e2])
def zFb(s:Se)(path:B)(label:Int):Vec:=bif !(dO s.conf path).2 then gG else(qCd (gM s path label true) (dO s.conf path).1.user).1
theorem zHF{s:Se}{path:B}(label:Int)(h:dV s)(hu:qGW s.conf)(hp:path.length≤1000000000):qF0 s path label=true∧qF1 s path label=(zFb s path label,()):=zHx (by
 unfold qYj zFb
 have hc:CfN 1000000000 s.conf:=⟨h.labels,h.queues,h.qu⟩
 have hd:=xH label true h hu hp
 refine aF ?_
 simp only[sS,aN,kW.2 hc,hd.1,hd.2,(qF6 _ _).1,(qF6 _ _).2]
 grind)
def qF8(s:Se)(leaf:B)(a:Ak):Bool:=pU (gD (gV s leaf a.label true 0) a.size) (gM s leaf a.label true)
theorem qY0{s:Se}{leaf:B}(a:Ak)(h:dV s)(hu:qGW s.conf)(hp:leaf.length≤1000000000):qBQ s leaf a=true∧qAL s leaf a=(qF8 s leaf a,()):=zHv (by
 unfold qYh qF8
 have hd:=xH a.label true h hu hp
 have hs:=nP leaf a.label true 0 h
 refine aF ?_
 simp only[sS,hd.1,hd.2,hs.1,hs.2,pU,gD]
 grind)
def qCf(s:Se)(leaf:B)(label user:Int):Bool:=pU (gV s leaf label false user) (zFb s leaf label)
theorem qTA{s:Se}{leaf:B}(label user:Int)(h:dV s)(hu:qGW s.conf)(hp:leaf.length≤1000000000):zX s leaf label user=true∧qBS s leaf label user=(qCf s leaf label user,()):=zEB (by
 unfold qTt qCf
 have hd:=zHF label h hu hp
 have hs:=nP leaf label false user h
 refine aF ?_
 simp only[sS,hd.1,hd.2,hs.1,hs.2,pU]
 grind)
def fG:B:=[114,111,111,116]
theorem qCg:([OfNat.ofNat 114,OfNat.ofNat 111,OfNat.ofNat 111,OfNat.ofNat 116]:B)=fG:=rfl
def zFc(a b:Vec):Vec:=⟨max (w64 (a.mem-b.mem)) 0,max (w64 (a.cores-b.cores)) 0⟩
def qCh(s:Se)(path:B)(label:Int)(size:Vec):Bool :=
 !((up6 path).any fun p=>!pU (gD (gV s p label true 0) size) (gM s p label false)||p==fG&&!pU (gD (gV s p label true 0) size) (zFc (dJ s label) (qH1 s label)))
theorem zFd:∀(n:Nat) (p q:B),q∈upN n p→q.length≤p.length
 | 0,p,q,h=>by simp[upN] at h
 | n+1,p,q,h=>by
  unfold upN at h
  cases hp:p==[] with
  | true=>rw[hp] at h;simp at h
  | false =>
   rw[hp] at h
   have hp:p≠[]:=by simpa using hp
   simp only[cond_false,List.mem_cons] at h
   rcases h with h | h
   ·rw[h];exact Nat.le_refl _
   ·exact Nat.le_trans (zFd n _ _ h) (Nat.le_of_lt (qNl hp))
theorem qTB{s:Se}{path:B}(label:Int)(size:Vec)(h:dV s)(hu:qGW s.conf)(hp:path.length≤1000000000):uV s path label size=true∧zV s path label size=(qCh s path label size,()):=zE5 (by
 unfold qTp qCh
 refine bB (eX.2 hp) ?_
 simp only[aN]
 have hn:(up6 path).length≤1000000000:=Nat.le_trans (qQq _) hp
 refine qHP (up6 path) [] (fun i=>(i,())) (fun p=>!pU (gD (gV s p label true 0) size) (gM s p label false)||p==fG&&!pU (gD (gV s p label true 0) size) (zFc (dJ s label) (qH1 s label))) (fun b=>(!b,())) (fun i hi=>?_) ?_
 ·have hpl:((up6 path).getD i []).length≤1000000000:=Nat.le_trans (zFd _ _ _ (bT hi)) hp
  have hd:=xH label false h hu hpl
  have hs:=nP ((up6 path).getD i []) label true 0 h
  simp only[sS,bG hi,bF hi,aG hi hn,hd.1,hd.2,hs.1,hs.2,aO.2 h,pU,gD,zFc,qCg]
  generalize ((up6 path).getD i []==fG)=isRoot
  grind [iH,iU]
 ·simp only[sS,bM])
def kX(s:Se)(a b:B)(label:Int):Bool :=
 let o:=zJX (gV s a label true 0) (gM s a label true) (gV s b label true 0) (gM s b label true)
 decide (o<0)||o==0&&Op.bytesLess a b
theorem zAI{s:Se}{a b:B}(label:Int)(h:dV s)(hu:qGW s.conf)(ha:a.length≤1000000000)(hb:b.length≤1000000000):qAK s a b label=true∧qDc s a b label=(kX s a b label,()):=zA1 (by
 unfold qOe kX
 have h1:=xH label true h hu ha
 have h2:=nP a label true 0 h
 have h3:=xH label true h hu hb
 have h4:=nP b label true 0 h
 refine aF ?_
 simp only[sS,h1.1,h1.2,h2.1,h2.2,h3.1,h3.2,h4.1,h4.2,(zEZ _ _ _ _).1,(zEZ _ _ _ _).2]
 grind)
end Go.Proofs.YtehpnjmgjmkjaaaGreatDoor
namespace Go.Proofs.YtehpnjmgjmkjaaaGreatDoor
open Go Go.W Go.Proofs
open Go.W.DT (ret need br bad loop join)
set_option maxRecDepth 100000
theorem qL0{α σ ρ:Type}(l:List α)(d:α)(enc:Int→σ){body:σ→DT (σ ⊕ ρ)}(p:α→Bool)(fin:Nat→ρ)
  (hstep:∀i:Nat,i<l.length→(body (enc (i:Int))).run=some (bif p (l.getD i d) then .inl (enc ((i+1:Nat):Int)) else .inr (fin i)))
  (hend:(body (enc (l.length:Int))).run=some (.inr (fin l.length))):(DT.loop (enc 0) body).G (fin (l.takeWhile p).length):=by
 refine qP5 l d (fun i (_:Unit)=>enc i) (fun i _ a=>bif p a then .inl () else .inr (fin i)) (fun i _=>fin i) (fun _ _=>True) (fun i b hi _=>?_) (fun b _=>aF hend) (b0:=()) trivial ?_
 ·have:= hstep i hi
  cases hc:p (l.getD i d)<;>rw[hc] at this<;>simp only[cond_true,cond_false]
  ·exact aF this
  ·exact⟨trivial,aF this⟩
 ·rw[qB6 p fin l 0,Nat.zero_add]
section
variable {α ρ:Type} {l xs:List α} {k sz:Nat} {x:α}
theorem qF9(p:α→Bool):(l.takeWhile p).length≤l.length:=(List.takeWhile_prefix _).length_le
theorem zKg(hk:k≤l.length)(hn:l.length≤1000000000)(hs:sz≤100000) :
  (need (decide ((0:Int)≤(k:Int))&&decide ((k:Int)≤(l.length:Int))&&true&&true) (need (aX (0+List.length (@aH α 0 (Int.toNat (k:Int)) l)) sz&&true) (need ((0+List.length (@aH α 0 (Int.toNat (k:Int)) l)).beq ([] ++ @aH α 0 (Int.toNat (k:Int)) l).length) (ret (Sum.inl ([] ++ @aH α 0 (Int.toNat (k:Int)) l,()):(List α×Unit) ⊕ ρ))))).run=some (Sum.inl (l.take k,())):=by
 have h1:decide ((k:Int)≤(l.length:Int))=true:=by simp;omega
 have h2:(l.take k).length≤1000000000:=by rw[List.length_take];omega
 simp only[sS,qCa,h1,eF h2 hs]
theorem zAJ(hn:xs.length<1000000000)(hs:sz≤100000) :
  (need ((0+xs.length).beq xs.length) (need (aX (xs.length+1) sz&&(0+xs.length).ble xs.length) (need ((xs.length+1).beq (@aR α 0 xs.length xs++[x]).length) (ret (Sum.inl (@aR α 0 xs.length xs++[x],()):(List α×Unit) ⊕ ρ))))).run=some (Sum.inl (xs++[x],())):=by
 simp only[sS,eF (show xs.length+1≤1000000000 by omega) hs]
theorem zFe:@aH α (Int.toNat (k:Int)) (l.length:Int).toNat l=l.drop k:=by rw[Int.toNat_natCast,Int.toNat_natCast,vP]
theorem zFf(hk:k≤l.length):slB (k:Int) (l.length:Int) (l.length:Int)=true:=qIv.2 ⟨by omega,by omega,by omega⟩
end
theorem zAK(l:List Ak)(prio:Int):(qJY l prio).1.length≤l.length:=by
 have:= qJX (fun i (v:Bool×List Ak)=>v.2.length≤i) (qG6 prio) (fun i v a h=>qJZ prio i v a h) l 0 (false,[]) (Nat.le_refl 0)
 rw[Nat.zero_add] at this
 exact this
def rD(s:Se):Int:=w64 (w64 (s.epoch*2 ^ 20)+w64 (s.seq+1))
def qL1(s:Se)(a:Ap)(x:Ak):Ap:=bif a.state==1 then{ a with state:=2,asks:=[],seen:=s.now,beat:=0 } else{ a with asks:=(qJY a.asks x.prio).1,grants:=a.grants++[rD s] }
def yE(s:Se)(n:Nd)(a:Ap)(x:Ak):Ct:=⟨rD s,a.id,n.id,x.size,x.prio,n.label,a.state==1,0⟩
def nU(s:Se)(n:Nd)(a:Ap)(x:Ak):Se×Ct :=
 (dQ { s with conts:=qPC (·.id) (yE s n a x) s.conts,seq:=w64 (s.seq+1) } (qL1 s a x),yE s n a x)
theorem qL2{α:Type}(key:α→Int)(x:α)(l:List α):(qPC key x l).length=l.length+1:=by
 unfold qPC
 have:= qF9 (l:=l) (fun a=>decide (key a<key x))
 simp only[List.length_append,List.length_take,List.length_drop,List.length_cons,List.length_nil]
 omega
theorem zFg{k:Nat}{s:Se}{a:Ap}(x:Ak)(ha:ApN k a):ApN (k+1) (qL1 s a x):=by
 have h:=ha.le (Nat.le_succ k)
 unfold qL1
 cases a.state==1 with
 | true=>exact⟨Nat.zero_le _,h.2,h.3,h.4,h.5,h.6⟩
 | false=>exact⟨Nat.le_trans (zAK _ _) h.1,by show(a.grants++[rD s]).length≤k+1;have:= ha.2;simp;omega,h.3,h.4,h.5,h.6⟩
theorem SeN.zIB{k:Nat}{s:Se}(h:SeN k s)(c:Ct)(q:Int):SeN (k+1) { s with conts:=qPC (·.id) c s.conts,seq:=q }:=by
 have g:=h.le (Nat.le_succ k)
 exact⟨g.1,g.2,by rw[qL2];exact Nat.succ_le_succ h.3,g.4,g.5,g.6,g.7,g.8,g.9,g.10⟩
theorem SeN.nU{k:Nat}{s:Se}{n:Nd}{a:Ap}{x:Ak}(h:SeN k s)(ha:ApN k a):SeN (k+2) (nU s n a x).1 :=
 (h.zIB (yE s n a x) _).dQ ((zFg x ha).le (Nat.le_succ _))
theorem qOy{s:Se}{n:Nd}{a:Ap}{x:Ak}{k:Nat}(h:SeN k s)(ha:ApN k a)(hk:k+2≤1000000000):qV s n a x=true∧mP s n a x=((nU s n a x).1,(nU s n a x).2,()):=zAu (by
 unfold qNX
 have hs:=h.ok (show k≤1000000000 by omega)
 have hA:=ha.ok (show k≤1000000000 by omega)
 have hn:=hs.conts
 refine bB (eX.2 hA.asks) ?_
 refine aT ((qL1 s a x,()),()) (aF ?_) ?_
 ·have hg:a.grants.length+1≤1000000000:=by have:= ha.2;omega
  have e:@aH Int 0 (a.grants.length+1) (a.grants++[rD s])=a.grants++[rD s]:=by
   have:= gL (a.grants++[rD s]);rwa [List.length_append] at this
  unfold rD at e
  simp only[sS,eF hg (by decide:8≤100000),eF hA.grants (by decide:8≤100000),aN,qL1,rD,e]
  cases a.state==1<;>rfl
 have hkk:=qF9 (l:=s.conts) (fun c=>decide (c.id<rD s))
 refine aT ((((s.conts.takeWhile fun c=>decide (c.id<rD s)).length:Nat):Int),()) (qL0 s.conts dCt (fun i=>(i,())) (fun c=>decide (c.id<rD s)) (fun i=>Sum.inl ((i:Int),())) (fun i hi=>?_) ?_) ?_
 ·simp only[sS,bG hi,bF hi,aG hi hn,rD]
  grind
 ·simp only[sS,bM]
 ·generalize hkd:(s.conts.takeWhile fun c=>decide (c.id<rD s)).length=p at hkk ⊢
  have htl:(s.conts.take p).length=p:=by rw[List.length_take];omega
  refine aT (s.conts.take p,()) (aF (zKg hkk hn (by decide))) ?_
  refine aT (s.conts.take p++[yE s n a x],()) (aF (zAJ (by have:= h.3;rw[htl];omega) (by decide))) ?_
  have hm:=aO.2 ((h.zIB (yE s n a x) (w64 (s.seq+1))).ok (by omega))
  have e0:qPC (·.id) (yE s n a x) s.conts=(s.conts.take p++[yE s n a x])++s.conts.drop p:=by
   unfold qPC
   simp only[←hkd]
   rfl
  have hl3:((s.conts.take p++[yE s n a x]).length+(s.conts.drop p).length)≤1000000000:=by
   have:= h.3
   simp only[List.length_append,List.length_take,List.length_drop,List.length_cons,List.length_nil]
   omega
  rw[e0] at hm
  unfold nU
  rw[e0]
  generalize s.conts.take p++[yE s n a x]=xs at hm hl3 ⊢
  refine aF ?_
  have e3:List.take (xs.length+(s.conts.drop p).length) (xs++s.conts.drop p)=xs++s.conts.drop p:=by rw[←List.length_append,List.take_length]
  simp only[sS,vP,zFf hkk,eF hl3 (by decide:72≤100000),aN,e3,hm]
  rfl)
def nG(s:Se)(n:Nd)(x:Sl):Se×Int×Ct×Bool×Unit :=
 let a:=(aB s x.app).1
 let k:=(kZ a.asks x.prio).1
 bif !(aB s x.app).2||!live a||!(kZ a.asks x.prio).2||!qBf k n||!pU k.size n.cap||!qF8 s a.queue k||!qCf s a.queue n.label a.user then(bQ s n.id,0,dCt,false,())
 else bif !pU k.size (sH s n.id)||!qCh s a.queue n.label k.size then(s,3,dCt,true,())
 else((nU (bQ s n.id) n a k).1,1,(nU (bQ s n.id) n a k).2,true,())
theorem zFh{s:Se}{n:Nd}{x:Sl}{k:Nat}(h:SeN k s)(hu:qGW s.conf)(hk:k+2≤1000000000):qDl s n x=true∧sQ s n x=nG s n x:=zEC (by
 unfold qTu nG
 have hs:=h.ok (show k≤1000000000 by omega)
 have hA:=h.aB x.app
 have hq:(aB s x.app).1.queue.length≤1000000000:=Nat.le_trans hA.6 (by omega)
 have hk1:(aB s x.app).1.asks.length≤1000000000:=Nat.le_trans hA.1 (by omega)
 have hg:=qOy (n:=n) (x:=(kZ (aB s x.app).1.asks x.prio).1) (h.bQ n.id) hA hk
 have hd:=qY0 (kZ (aB s x.app).1.asks x.prio).1 hs hu hq
 have hm:=qTA n.label (aB s x.app).1.user hs hu hq
 have hr:=qTB n.label (kZ (aB s x.app).1.asks x.prio).1.size hs hu hq
 refine aF ?_
 simp only[sS,aN,aO.2 hs,eX.2 hk1,(lY _).1,(lY _).2,hg.1,hg.2,hd.1,hd.2,hm.1,hm.2,hr.1,hr.2,pU]
 cases (aB s x.app).2<;>(try rfl)
 cases live (aB s x.app).1<;>(try rfl)
 cases (kZ (aB s x.app).1.asks x.prio).2<;>(try rfl)
 cases qBf (kZ (aB s x.app).1.asks x.prio).1 n<;>(try rfl)
 cases decide ((kZ (aB s x.app).1.asks x.prio).1.size.mem≤n.cap.mem)<;>(try rfl)
 cases decide ((kZ (aB s x.app).1.asks x.prio).1.size.cores≤n.cap.cores)<;>(try rfl)
 cases qF8 s (aB s x.app).1.queue (kZ (aB s x.app).1.asks x.prio).1<;>(try rfl)
 cases qCf s (aB s x.app).1.queue n.label (aB s x.app).1.user<;>(try rfl)
 cases decide ((kZ (aB s x.app).1.asks x.prio).1.size.mem≤(sH s n.id).mem)<;>(try rfl)
 cases decide ((kZ (aB s x.app).1.asks x.prio).1.size.cores≤(sH s n.id).cores)<;>(try rfl)
 cases qCh s (aB s x.app).1.queue n.label (kZ (aB s x.app).1.asks x.prio).1.size<;>rfl)
def qBg(s:Se)(n:Nd)(a:Ap)(x:Ak)(first:Bool):Se×Int×Ct×Unit :=
 let is:=qF8 s a.queue x
 bif qAA x n==4||!pU x.size n.cap||first&&!is then(s,0,dCt,())
 else bif !qBf x n then(bif first==is then dQ s { a with asks:=qT8 a.asks x.prio } else s,0,dCt,())
 else bif !qCh s a.queue n.label x.size then(s,0,dCt,())
 else bif pU x.size (sH s n.id) then((nU s n a x).1,1,(nU s n a x).2,())
 else bif first&&!uC s a.id x.prio then(qA7 s ⟨n.id,a.id,x.prio⟩,2,dCt,())
 else(s,0,dCt,())
theorem zHG{s:Se}{n:Nd}{a:Ap}{x:Ak}{k:Nat}(first:Bool)(h:SeN k s)(ha:ApN k a)(hu:qGW s.conf)(hk:k+2≤1000000000):qF2 s n a x first=true∧xB s n a x first=qBg s n a x first:=zHy (by
 unfold qYk qBg
 have hs:=h.ok (show k≤1000000000 by omega)
 have hq:a.queue.length≤1000000000:=Nat.le_trans ha.6 (by omega)
 have hk1:a.asks.length≤1000000000:=Nat.le_trans ha.1 (by omega)
 have hg:=qOy (n:=n) (x:=x) h ha hk
 have hd:=qY0 x hs hu hq
 have hr:=qTB n.label x.size hs hu hq
 have hmi:=zHE x.prio hk1
 refine aF ?_
 simp only[sS,aN,aO.2 hs,hg.1,hg.2,hd.1,hd.2,hr.1,hr.2,hmi.1,hmi.2,pU]
 cases qAA x n==4<;>(try rfl)
 cases decide (x.size.mem≤n.cap.mem)<;>(try rfl)
 cases decide (x.size.cores≤n.cap.cores)<;>(try rfl)
 generalize qF8 s a.queue x=isDue
 cases first<;>cases isDue<;>(try rfl)<;>cases qBf x n<;>(try rfl)<;>cases qCh s a.queue n.label x.size<;>(try rfl)<;>cases decide (x.size.mem≤(sH s n.id).mem)<;>(try rfl)<;>cases decide (x.size.cores≤(sH s n.id).cores)<;>(try rfl)<;>cases uC s a.id x.prio<;>rfl)
end Go.Proofs.YtehpnjmgjmkjaaaGreatDoor
namespace Go.Proofs.YtehpnjmgjmkjaaaGreatDoor
open Go Go.W Go.Proofs
open Go.W.DT (ret need br bad loop join)
set_option maxRecDepth 100000
section
variable {α ρ:Type} {l xs:List α} {k sz:Nat} {x:α}
theorem zKh(hk:k≤l.length)(hn:l.length≤1000000000)(hs:sz≤100000) :
  (need (decide ((0:Int)≤(k:Int))&&decide ((k:Int)≤((Nat.max 0 l.length:Nat):Int))) (need ((0+((k:Int)-0).toNat).ble l.length) (need (aX (0+((k:Int)-0).toNat) sz&&true) (need ((0+((k:Int)-0).toNat).beq ([] ++ @aR α 0 ((k:Int)-0).toNat l).length) (ret (Sum.inl ([] ++ @aR α 0 ((k:Int)-0).toNat l,()):(List α×Unit) ⊕ ρ)))))).run=some (Sum.inl (l.take k,())):=by
 have h1:decide ((k:Int)≤((Nat.max 0 l.length:Nat):Int))=true:=by
  have: Nat.max 0 l.length=l.length:=Nat.max_eq_right (Nat.zero_le _)
  rw[this];simp;omega
 have h2:((k:Int)-0).toNat=k:=by omega
 have h3:aR 0 k l=l.take k:=by simp[aR]
 have h4:Nat.ble k l.length=true:=qGw.2 hk
 have h5:(l.take k).length=k:=by rw[List.length_take];omega
 simp only[sS,qCa,h1,h2,h3,h4,h5,eF (show k≤1000000000 by omega) hs]
theorem zKi(hk:k≤l.length)(hn:xs.length+l.length≤1000000000)(hs:sz≤100000) :
  (need (inB (k:Int) (l.length:Int) ((Nat.max 0 l.length:Nat):Int)) (need ((0+Int.toNat (k:Int)+((l.length:Int)-(k:Int)).toNat).ble l.length) (need ((0+xs.length).beq xs.length) (need (aX (xs.length+((l.length:Int)-(k:Int)).toNat) sz&&(0+xs.length).ble xs.length) (need ((xs.length+((l.length:Int)-(k:Int)).toNat).beq (@aR α 0 xs.length xs ++ @aR α (0+Int.toNat (k:Int)) ((l.length:Int)-(k:Int)).toNat l).length) (ret (Sum.inl (@aR α 0 xs.length xs ++ @aR α (0+Int.toNat (k:Int)) ((l.length:Int)-(k:Int)).toNat l,()):(List α×Unit) ⊕ ρ))))))).run=some (Sum.inl (xs++l.drop k,())):=by
 have h1:inB (k:Int) (l.length:Int) ((Nat.max 0 l.length:Nat):Int)=true:=by
  have: Nat.max 0 l.length=l.length:=Nat.max_eq_right (Nat.zero_le _)
  rw[this];exact qCL.2 ⟨by omega,by omega,by omega⟩
 have h2:((l.length:Int)-(k:Int)).toNat=l.length-k:=by omega
 have h3:aR k (l.length-k) l=l.drop k:=by
  unfold aR;apply List.take_of_length_le;rw[List.length_drop];exact Nat.le_refl _
 have h4:Nat.ble (k+(l.length-k)) l.length=true:=qGw.2 (by omega)
 have h5:(l.drop k).length=l.length-k:=List.length_drop
 simp only[sS,h1,h2,h3,h4,h5,eF (show xs.length+(l.length-k)≤1000000000 by omega) hs]
end
def qD6{α:Type}(p:α→Bool)(x:α)(l:List α):List α:=(l.takeWhile p++[x])++l.dropWhile p
theorem qID{α:Type}(p:α→Bool)(x:α)(l:List α):(l.take (l.takeWhile p).length++[x])++l.drop (l.takeWhile p).length=qD6 p x l:=by
 unfold qD6;rw[(qX0 p l).1,(qX0 p l).2]
theorem qCi{α:Type}(p:α→Bool)(x:α)(l:List α):(qD6 p x l).length=l.length+1:=by
 rw[←qID]
 have:= qF9 (l:=l) p
 simp only[List.length_append,List.length_take,List.length_drop,List.length_cons,List.length_nil]
 omega
def pW(queue:B)(out:List Ap)(a:Ap):List Ap:=bif live a&&a.queue==queue then qD6 (fun b=>decide (b.prio≥a.prio)) a out else out
def qEu(s:Se)(queue:B):List Int:=(s.apps.foldl (pW queue) []).map (·.id)
theorem qTC{α β:Type}(f:List β→α→List β)(h:∀v a,(f v a).length≤v.length+1):∀(l:List α) (v:List β),(l.foldl f v).length≤v.length+l.length
 | [],v=>Nat.le_refl _
 | a::l,v=>by
  rw[List.foldl,List.length_cons]
  exact Nat.le_trans (qTC f h l _) (by have:= h v a;omega)
theorem xI(queue:B)(v:List Ap)(a:Ap):(pW queue v a).length≤v.length+1:=by
 unfold pW
 cases live a&&a.queue==queue with
 | true=>simp only[cond_true,qCi];exact Nat.le_refl _
 | false=>exact Nat.le_succ _
theorem zFi{s:Se}(queue:B)(h:dV s)(hn:s.apps.length≤100000000):qCY s queue=true∧eB s queue=(qEu s queue,()):=zEw (by
 unfold qTg
 have hN:=h.apps
 refine aT (s.apps.foldl (pW queue) [],()) (pV s.apps dAp (fun i (v:List Ap)=>(v,i,())) (pW queue) (fun v=>Sum.inl (v,())) (fun i v=>v.length≤i) (fun i v hi hI=>⟨?_,?_⟩) (fun v hI=>aF ?_) (b0:=[]) (Nat.le_refl 0)) ?_
 ·have:= xI queue v (s.apps.getD i dAp);omega
 ·have hl:=xI queue v (s.apps.getD i dAp)
  have hI:v.length≤i:=hI
  refine fQ (bF hi) (aT (pW queue v (s.apps.getD i dAp),()) ?_ (aF (by simp only[sS,aG hi hN])))
  refine bB (bG hi) (bB (lY _).1 ?_)
  rw[(lY _).2]
  simp only[Int.toNat_natCast]
  unfold pW
  cases hlv:live (s.apps.getD i dAp) with
  | false=>exact aF (by simp only[sS])
  | true =>
  cases hq:(s.apps.getD i dAp).queue==queue with
  | false=>exact aF (by simp only[sS])
  | true =>
  refine bN rfl (bN rfl ?_)
  simp only[Bool.and_self,cond_true]
  refine aT ((((v.takeWhile fun b=>decide (b.prio≥(s.apps.getD i dAp).prio)).length:Nat):Int),()) (qL0 v dAp (fun k=>(k,())) (fun b=>decide (b.prio≥(s.apps.getD i dAp).prio)) (fun k=>Sum.inl ((k:Int),())) (fun k hk=>?_) ?_) ?_
  ·simp only[sS,qCa,bF hk,qCe hk,aG hk (show v.length≤1000000000 by omega)]
   grind
  ·simp only[sS,bM]
  ·have hkk:=qF9 (l:=v) (fun b=>decide (b.prio≥(s.apps.getD i dAp).prio))
   refine aT (v.take (v.takeWhile fun b=>decide (b.prio≥(s.apps.getD i dAp).prio)).length,()) (aF (zKh hkk (by omega) (by decide))) ?_
   refine aT (v.take (v.takeWhile fun b=>decide (b.prio≥(s.apps.getD i dAp).prio)).length++[s.apps.getD i dAp],()) (aF (zAJ (by rw[List.length_take];omega) (by decide))) ?_
   rw[←qID]
   exact aF (zKi hkk (by rw[List.length_append,List.length_take,List.length_singleton];omega) (by decide))
 ·simp only[sS,bM]
 ·have hl:=qTC (pW queue) (xI queue) s.apps []
  unfold qEu
  generalize s.apps.foldl (pW queue) []=out at hl ⊢
  have hl:out.length≤1000000000:=by simp at hl;omega
  have e:out.map (·.id)=out.foldl (fun v a=>v++[a.id]) []:=by
   have: ∀(l:List Ap) (v:List Int),l.foldl (fun v a=>v++[a.id]) v=v++l.map (·.id):=by
    intro l
    induction l with
    | nil=>intro v;simp
    | cons a l ih=>intro v;rw[List.foldl,ih];simp
   rw[this];rfl
  rw[e]
  refine kF out dAp (fun i (v:List Int)=>(v,i,())) (fun v a=>v++[a.id]) (fun v=>(v,())) (fun i v=>v.length≤i) (fun i v hi hI=>⟨by simp;omega,?_⟩) (fun v hI=>?_) (b0:=[]) (Nat.le_refl 0)
  ·have hI:v.length≤i:=hI
   simp only[sS,qCa,bF hi,qCe hi,aG hi hl,eF (show v.length+1≤1000000000 by omega) (by decide:8≤100000)]
  ·simp only[sS,bM])
def nH(s:Se)(path:B)(label:Int):List B:=(bO s.conf path).foldl (fun out a=>qD6 (fun b=>!kX s a b label) a out) []
theorem rE{c:Cf}{path k:B}(h:k∈bO c path):eZ k=path∧path≠[]∧∃q∈c.queues,q.path=k:=by
 unfold bO at h
 rw[List.mem_filterMap] at h
 obtain⟨q,hq,e⟩:=h
 cases h1:path==[]<;>cases h2:eZ q.path==path<;>rw[h1,h2] at e<;>simp at e
 subst e
 exact⟨by simpa using h2,by simpa using h1,q,hq,rfl⟩
theorem qGX(c:Cf)(path:B):(bO c path).length≤c.queues.length:=List.length_filterMap_le _ _
theorem qL3{α:Type}{p:α→Bool}{x a:α}{l:List α}(h:a∈qD6 p x l):a=x∨a∈l:=by
 unfold qD6 at h
 simp only[List.mem_append,List.mem_singleton] at h
 rcases h with(h | h) | h
 ·exact .inr ((List.takeWhile_prefix p).subset h)
 ·exact .inl h
 ·exact .inr ((List.dropWhile_suffix p).subset h)
theorem zFj{s:Se}{path:B}(label:Int)(h:dV s)(hu:qGW s.conf)(hn:s.conf.queues.length≤100000000):qDk s path label=true∧lX s path label=(nH s path label,()):=zEA (by
 unfold qTs nH
 have hc:CfN 1000000000 s.conf:=⟨h.labels,h.queues,h.qu⟩
 refine bB (kW.2 hc) ?_
 simp only[aN]
 have hkl:=qGX s.conf path
 have hpl:∀k∈bO s.conf path,k.length≤1000000000:=by
  intro k hk
  obtain⟨_,_,q,hq,rfl⟩:=rE hk
  exact(h.qu q hq).2
 generalize bO s.conf path=ks at hkl hpl ⊢
 have hN:ks.length≤1000000000:=by omega
 refine pV ks [] (fun i (v:List B)=>(v,i,())) (fun out a=>qD6 (fun b=>!kX s a b label) a out) (fun v=>(v,())) (fun i v=>v.length≤i∧∀b∈v,b.length≤1000000000) (fun i v hi hI=>⟨⟨by rw[qCi];omega,fun b hb=>?_⟩,?_⟩) (fun v hI=>aF ?_) (b0:=[]) ⟨Nat.le_refl 0,fun b hb=>by cases hb⟩
 ·rcases qL3 hb with e | e
  ·rw[e];exact hpl _ (bT hi)
  ·exact hI.2 b e
 ·obtain⟨hI,hI2⟩:=hI
  have ha:=hpl _ (bT (d:=[]) hi)
  refine fQ (bF hi) (aT (qD6 (fun b=>!kX s (ks.getD i []) b label) (ks.getD i []) v,()) ?_ (aF (by simp only[sS,aG hi hN])))
  refine aT ((((v.takeWhile fun b=>!kX s (ks.getD i []) b label).length:Nat):Int),()) (qL0 v [] (fun k=>(k,())) (fun b=>!kX s (ks.getD i []) b label) (fun k=>Sum.inl ((k:Int),())) (fun k hk=>?_) ?_) ?_
  ·have hq:=zAI (a:=ks.getD i []) (b:=v.getD k []) label h hu ha (hI2 _ (bT hk))
   simp only[sS,qCa,bF hk,qCe hk,bG hi,hq.1,hq.2,aG hk (show v.length≤1000000000 by omega)]
   cases kX s (ks.getD i []) (v.getD k []) label<;>rfl
  ·simp only[sS,bM]
  ·have hkk:=qF9 (l:=v) (fun b=>!kX s (ks.getD i []) b label)
   have hv1:v.length≤1000000000:=by omega
   have hv3:(v.take (v.takeWhile fun b=>!kX s (ks.getD i []) b label).length++[ks.getD i []]).length+v.length≤1000000000:=by rw[List.length_append,List.length_take,List.length_singleton];omega
   refine aT (v.take (v.takeWhile fun b=>!kX s (ks.getD i []) b label).length,()) (aF (zKh hkk hv1 (by decide))) ?_
   refine aT (v.take (v.takeWhile fun b=>!kX s (ks.getD i []) b label).length++[ks.getD i []],()) (bB (bG hi) (aF ?_)) ?_
   ·simp only[Int.toNat_natCast]
    exact zAJ (by rw[List.length_take];omega) (by decide)
   ·rw[←qID]
    exact aF (zKi hkk hv3 (by decide))
 ·simp only[sS,bM])
end Go.Proofs.YtehpnjmgjmkjaaaGreatDoor
