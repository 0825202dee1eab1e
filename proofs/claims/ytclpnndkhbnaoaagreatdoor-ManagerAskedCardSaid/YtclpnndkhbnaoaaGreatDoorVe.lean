/- Part of the proof: texts Ve. No conditions. -/
import Derived.Test.YtclpnndkhbnaoaaGreatDoorVd
set_option linter.all false
namespace Go.W
open Go Go.RowKit
section
variable {T:Nat→Type}
def V.ren(σ:Nat→Nat):V T→V T
 | .ptr i r o=>.ptr (σ i) r o
 | .sl i off len cap=>.sl (σ i) off len cap
 | .mp i=>.mp (σ i)
 | .it i=>.it (σ i)
 | .fn f vs us=>.fn f (goL σ vs) (goL σ us)
 | .ifc t v=>.ifc t (V.ren σ v)
 | .agg vs=>.agg (goL σ vs)
 | .tup vs=>.tup (goL σ vs)
 | v=>v
where goL (σ:Nat→Nat):List (V T)→List (V T)
 | []=>[]
 | v::vs=>V.ren σ v::goL σ vs
def O.ren(σ:Nat→Nat):O T→O T
 | .rows k xs=>.rows k (xs.map (V.ren.goL σ))
 | .trows e xs=>.trows e xs
 | .map c es=>.map c (es.map fun e=>((V.ren σ e.1.1,V.ren σ e.1.2),e.2))
 | .sit s p=>.sit s p
 | .mit m a b c=>.mit (m.map σ) a b c
def at0{α:Type}:Nat→List α→List (Nat×α)
 | _,[]=>[]
 | n,x::l=>(n,x)::at0 (n+1) l
def lJ(os:List (O T)):Hp T:=⟨bD (at0 0 os) .e,os.length,[]⟩
structure Spec(T:Nat→Type) where
 α:Type
 args:α→List (V T)
 aL:α→List (O T)
 pre:α→Bool
 out:α→Out (V T×List (Option (O T)))
def mR(ρ:List (Nat×Nat))(h:Tr (O T)):List (Nat×Option (O T))→Prop
 | []=>True
 | (_,none)::l=>mR ρ h l
 | (i,some o)::l=>(match aQ ρ i with
  | some j=>(match h.get j with | some o'=>qI7 ρ o o'∧mR ρ h l | none=>False)
  | none=>False)
def tC(h:Tr (O T)):List (Nat×Option (O T))→List (Nat×Nat)→List (Nat×Nat)
 | [],l=>l
 | (_,none)::r,l=>tC h r l
 | (i,some o)::r,l=>tC h r (match aQ l i with
  | some j=>(match o,h.get j with | .rows _ xs,some (.rows _ ys)=>qJH xs ys l | _,_=>l)
  | none=>l)
def wS(n:Nat)(h:Tr (O T))(v u:V T)(os:List (Option (O T))):List (Nat×Nat):=tC h (at0 0 os) (V.pairs u v (qJI n))
def qM4(n:Nat)(r:V T×Hp T)(u:V T)(os:List (Option (O T))):Prop :=
 let ρ:=wS n r.2.h r.1 u os
 must (qGX ρ n&&bE (ρ.map (·.2))&&(ρ.all fun p=>Nat.blt p.1 os.length)&&Nat.ble n os.length) (gB ρ u r.1∧mR ρ r.2.h (at0 0 os))
end
section
variable {reg:Reg} {P:Program}
theorem qAv{α:Type}:∀(n:Nat) (l:List α) (j:Nat) (x:α),(j,x)∈at0 n l↔n≤j∧l[j-n]? = some x
 | n,[],j,x=>by simp[at0]
 | n,y::l,j,x=>by
  simp only[at0,fu,dx,qAv (n+1) l j x]
  constructor
  ·rintro(⟨rfl,rfl⟩ | ⟨h1,h2⟩)
   ·simp
   ·refine⟨by omega,?_⟩
    rw[show j-n=(j-(n+1))+1 by omega]
    simpa using h2
  ·rintro⟨h1,h2⟩
   by_cases h:j=n
   ·subst h;simp at h2;exact .inl ⟨rfl,h2.symm⟩
   ·right
    refine⟨by omega,?_⟩
    rw[show j-n=(j-(n+1))+1 by omega] at h2
    simpa using h2
theorem rJ{ρ:List (Nat×Nat)}{h:Tr (O reg.T)}:∀{l:List (Nat×Option (O reg.T))},mR ρ h l→∀{i o},(i,some o)∈l→∃j u,aQ ρ i=some j∧h.get j=some u∧qI7 ρ o u
 | (k,none)::l,hc,i,o,hm=>by
  rcases fu.1 hm with hm | hm
  ·cases hm
  ·exact rJ (by simpa only[mR] using hc) hm
 | (k,some x)::l,hc,i,o,hm=>by
  simp only[mR] at hc
  split at hc
  ·rename_i j hj
   split at hc
   ·rename_i u hu
    rcases fu.1 hm with hm | hm
    ·cases hm;exact⟨j,u,hj,hu,hc.1⟩
    ·exact rJ hc.2 hm
   ·exact hc.elim
  ·exact hc.elim
theorem qBa{T:Nat→Type}(σ:Nat→Nat):∀vs:List (V T),V.ren.goL σ vs=vs.map (V.ren σ)
 | []=>rfl
 | v::vs=>by simp[V.ren.goL,qBa σ vs]
theorem qI9{T:Nat→Type}{σ:Nat→Nat}{v:V T}:(v.ren σ).aP=v.aP:=by cases v<;>simp[V.ren,V.aP]
theorem qBb{σ:Nat→Nat}{vs:List (V reg.T)}{j:Nat}(hj:j<vs.length):(V.ren.goL σ vs).getD j .any=(vs.getD j .any).ren σ:=by
 rw[qBa,cO _ _ _ _ .any hj]
theorem tF{σ:Nat→Nat}{vs:List (V reg.T)}:(V.ren.goL σ vs).length=vs.length:=by rw[qBa,iq]
theorem wT{F:Nat→Prop}{w:World}{φ φ':Phi}{σ:Nat→Nat}(hφ:∀i p,φ i=some p→φ' (σ i)=some p){v:V reg.T}{cv:Value}(h:aA reg F w φ v cv):aA reg F w φ' (v.ren σ) cv:=by
 have lists:∀{vs:List (V reg.T)} {cs:Array Value},(∀j,j<vs.length→aA reg F w φ' ((vs.getD j .any).ren σ) (cs.getD j undef))→∀j,j<(V.ren.goL σ vs).length→aA reg F w φ' ((V.ren.goL σ vs).getD j .any) (cs.getD j undef):=by
  intro vs cs ih j hj
  rw[tF] at hj
  rw[qBb hj]
  exact ih j hj
 induction h with
 | d x v hd=>exact .d x v hd
 | ptr i r o b s k z hp=>exact .ptr _ r o b s k z (hφ _ _ hp)
 | fp row o a C t fz hFa hb hz hr=>exact .fp row o a C t fz hFa hb hz hr
 | sl j off len cap b s k z cap' hp hc hl hm' hz=>exact .sl _ off len cap b s k z cap' (hφ _ _ hp) hc hl hm' hz
 | slz j off cap base hc hb=>exact .slz _ off cap base hc hb
 | mp i b s hp=>exact .mp _ b s (hφ _ _ hp)
 | it i b s hp=>exact .it _ b s (hφ _ _ hp)
 | fn f caps fst cs fs hz _ hz' _ ih ih'=>exact .fn f _ _ cs fs (by rw[tF];exact hz) (lists ih) (by rw[tF];exact hz') (lists ih')
 | agg vs cs hz _ ih=>exact .agg _ cs (by rw[tF];exact hz) (lists ih)
 | tup vs cs hz _ ih=>exact .tup _ cs (by rw[tF];exact hz) (lists ih)
 | ifc t v cv _ ih=>exact .ifc t _ cv ih
 | undef=>exact .undef
 | any v=>exact .any v
theorem qJN{F:Nat→Prop}{w:World}{φ φ':Phi}{σ:Nat→Nat}(hφ:∀i p,φ i=some p→φ' (σ i)=some p){es:List ((V reg.T×V reg.T)×Nat)}{cs:List MapEntry}(h:gT reg F w φ es cs):gT reg F w φ' (es.map fun e=>((V.ren σ e.1.1,V.ren σ e.1.2),e.2)) cs:=by
 induction h with
 | nil=>exact .nil
 | cons k v n c es cs hk hv hn _ ih=>exact .cons _ _ n c _ cs (wT hφ hk) (wT hφ hv) hn ih
theorem qEx{F:Nat→Prop}{w:World}{φ φ':Phi}{σ:Nat→Nat}(hφ:∀i p,φ i=some p→φ' (σ i)=some p){j:Nat}(hn:φ j=none→φ' (σ j)=none){o:O reg.T}(h:eZ reg F w φ j o):eZ reg F w φ' (σ j) (o.ren σ):=by
 cases o with
 | map c es =>
  obtain⟨b,ces,h1,h2,h3⟩:=h.map reg
  exact .inr (.inl ⟨c,_,b,ces,rfl,hφ _ _ h1,h2,qJN hφ h3⟩)
 | sit s p =>
  obtain⟨b,h1,h2⟩:=h.sit reg
  exact .inr (.inr (.inl ⟨s,p,b,rfl,hφ _ _ h1,h2⟩))
 | mit m since seen last =>
  obtain⟨b,mb,h1,h2,h3⟩:=h.mit reg
  refine .inr (.inr (.inr ⟨m.map σ,since,seen,last,b,mb,rfl,hφ _ _ h1,h2,?_⟩))
  cases m with
  | none=>exact h3
  | some j'=>obtain⟨c,s,e1,e2⟩:=h3;exact⟨c,s,hφ _ _ e1,e2⟩
 | trows e xs =>
  obtain⟨h0,h⟩:=h.rows reg rfl
  refine .inl ⟨h0,?_⟩
  rcases h with⟨h1,h2⟩ | ⟨b,s,C,t,fz,h1,h2,h3,h4⟩
  ·exact .inl ⟨h1,hn h2⟩
  ·refine .inr ⟨b,s,C,t,fz,hφ _ _ h1,h2,h3,⟨h4.size,h4.len,⟨h4.at_.wid,h4.at_.aP,fun r c hr hc=>?_⟩⟩⟩
   have h5:=h4.at_.rel r c hr hc
   have hw:=h4.at_.wid r hr
   have hd:∃x,((O.trows e xs).row reg r).getD c .any=.d x:=by
    have hc:c<reg.k e:=hc
    simp only[O.row,O.k] at hw ⊢
    rw[iq] at hw
    exact⟨_,iY _ _ (by omega)⟩
   obtain⟨x,hx⟩:=hd
   show aA reg F w φ' (((O.trows e xs).row reg r).getD c .any) _
   rw[hx] at h5 ⊢
   exact .d _ _ h5.qEo
 | rows k xs =>
  obtain⟨_,h⟩:=h.rows reg rfl
  refine .inl ⟨rfl,?_⟩
  have hrow:∀r,r<xs.length→(O.rows k (xs.map (V.ren.goL σ))).row reg r=V.ren.goL σ (xs.getD r []):=fun r hr=>by
   simp only[O.row];rw[cO _ _ _ _ [] hr]
  rcases h with⟨h1,h2⟩ | ⟨b,s,C,t,fz,h1,h2,h3,h4⟩
  ·exact .inl ⟨by simpa [O.len,O.ren] using h1,hn h2⟩
  ·refine .inr ⟨b,s,C,t,fz,hφ _ _ h1,h2,h3,⟨by simpa [O.len,O.k,O.ren] using h4.size,by simpa [O.len,O.ren] using h4.len,⟨fun r hr=>?_,fun r c hr hc=>?_,fun r c hr hc=>?_⟩⟩⟩
   ·have hr:r<xs.length:=by simpa [O.len,O.ren] using hr
    show((O.rows k (xs.map (V.ren.goL σ))).row reg r).length=_
    rw[hrow r hr,tF]
    exact h4.at_.wid r hr
   ·have hr:r<xs.length:=by simpa [O.len,O.ren] using hr
    have hw:(xs.getD r []).length=k:=h4.at_.wid r hr
    show(((O.rows k (xs.map (V.ren.goL σ))).row reg r).getD c .any).aP=true
    rw[hrow r hr,qBb (by rw[hw];exact hc),qI9]
    exact h4.at_.aP r c hr hc
   ·have hr:r<xs.length:=by simpa [O.len,O.ren] using hr
    have hw:(xs.getD r []).length=k:=h4.at_.wid r hr
    show aA reg F w φ' (((O.rows k (xs.map (V.ren.goL σ))).row reg r).getD c .any) _
    rw[hrow r hr,qBb (by rw[hw];exact hc)]
    exact wT hφ (h4.at_.rel r c hr hc)
def pX(P:Program)(f:FuncId)(S:Spec reg.T):Prop :=
 There P f∧∀a,S.pre a=true→∀F φ w cargs,iX reg F φ (fun j=>j<(S.aL a).length) (lJ (S.aL a)).get w→eF F w φ (S.args a) cargs →
  ∀q,(S.out a).K (·= q)→Calls P f cargs w (bY (fun j=>j<(S.aL a).length) F φ (lJ (S.aL a)) w fun r=>qM4 (S.aL a).length r q.1 q.2)
structure qJO(S:Spec reg.T) where
 find:List (V reg.T)→(Nat→Option (O reg.T))→Option (S.α×List Nat)
 ok:∀(args:List (V reg.T)) (g:Nat→Option (O reg.T)) (a:S.α) (ρ:List Nat),find args g=some (a,ρ)→gB.goL (at0 0 ρ) (S.args a) args∧ρ.length=(S.aL a).length∧∀(j:Nat) (o:O reg.T),(S.aL a)[j]? = some o→∃(i:Nat) (u:O reg.T),ρ[j]? = some i∧g i=some u∧qI7 (at0 0 ρ) o u
def qCa(n nx:Nat)(ρ:List Nat)(j:Nat):Nat:=match Nat.blt j n with | true=>ρ.getD j 0 | false=>Nat.add nx (Nat.sub j n)
def kM{T:Nat→Type}(σ:Nat→Nat):List (Nat×Option (O T))→Tr (O T)→Tr (O T)
 | [],t=>t
 | (j,o)::l,t=>(kM σ l t).set (σ j) (match o with | some o=>some (o.ren σ) | none=>none)
def Spec.con(S:Spec reg.T)(M:qJO S)(args:List (V reg.T))(h:Hp reg.T):Out (V reg.T×Hp reg.T) :=
 match M.find args h.get with
 | none=>.bad
 | some (a,ρ) =>
  .need (S.pre a) ((S.out a).bind fun q =>
   let n:=ρ.length
   let nx:=Nat.add h.nx (Nat.sub q.2.length n)
   let σ:=qCa n h.nx ρ
   Out.ask (bE ρ&&ρ.all Tr.ok&&Nat.ble n q.2.length&&Tr.ok nx) (.ret (q.1.ren σ,⟨kM σ (at0 0 q.2) h.h,nx,ρ++h.wr⟩)))
theorem tH{α:Type}:∀(n:Nat) (l:List α) (j:Nat),aQ (at0 n l) j=if n≤j then l[j-n]? else none
 | n,[],j=>by simp[at0,aQ]
 | n,y::l,j=>by
  simp only[at0,aQ]
  cases hb:Nat.beq n j with
  | true =>
   have:= cz hb
   subst this
   simp
  | false =>
   have hne:n≠j:=fun e=>by subst e;simp[jq] at hb
   rw[tH (n+1) l j]
   by_cases h:n≤j
   ·rw[if_pos h,if_pos (by omega),show j-n=(j-(n+1))+1 by omega];simp
   ·rw[if_neg h,if_neg (by omega)]
theorem vE:∀{l:List Nat},bE l=true→∀{i j k:Nat},l[i]? = some k→l[j]? = some k→i=j
 | x::l,h,i,j,k,hi,hj=>by
  simp only[bE,bu,jv] at h
  have hn:∀m,l[m]? ≠ some x:=fun m hm=>by
   have: fI l x=true:=bZ.2 (ll hm)
   rw[h.1] at this;cases this
  cases i with
  | zero =>
   cases j with
   | zero=>rfl
   | succ j=>simp at hi hj;subst hi;exact(hn _ hj).elim
  | succ i =>
   cases j with
   | zero=>simp at hi hj;subst hj;exact(hn _ hi).elim
   | succ j=>simp at hi hj;rw[vE h.2 hi hj]
theorem uQ{ρ:List (Nat×Nat)}(h:bE (ρ.map (·.2))=true){i j k:Nat}(hi:aQ ρ i=some k)(hj:aQ ρ j=some k):i=j:=zZ h (fF hi) (fF hj)
theorem qBc{os:List (O reg.T)}(h:os.length≤1000000000)(j:Nat):(lJ os).get j=os[j]?:=by
 have key:∀(l:List (O reg.T)) (n:Nat),n+l.length≤1000000000→(bD (at0 n l) .e).get j=if n≤j then l[j-n]? else none:=by
  intro l
  induction l with
  | nil=>intro n _;simp[at0,bD,Tr.qG7]
  | cons o l ih =>
   intro n hn
   simp only[j5] at hn
   simp only[at0,bD]
   rw[Tr.dG (by unfold Tr.ok;simp;omega),ih (n+1) (by omega)]
   by_cases hj:j=n
   ·subst hj;simp
   ·rw[if_neg hj]
    by_cases h1:n≤j
    ·rw[if_pos h1,if_pos (by omega),show j-n=(j-(n+1))+1 by omega];simp
    ·rw[if_neg h1,if_neg (by omega)]
 have:= key os 0 (by omega)
 simpa [lJ,Hp.get] using this
theorem qAa{σ:Nat→Nat}:∀{l:List (Nat×Option (O reg.T))} {t:Tr (O reg.T)},(∀p∈l,Tr.ok (σ p.1)=true)→(∀p∈l,∀q∈l,σ p.1=σ q.1→p=q) →
  (∀p∈l,(kM σ l t).get (σ p.1)=p.2.map (O.ren σ))∧∀i,(∀p∈l,i≠σ p.1)→(kM σ l t).get i=t.get i
 | [],t,_,_=>⟨fun p hp=>by simp at hp,fun i _=>rfl⟩
 | (j,o)::l,t,hk,hd=>by
  obtain⟨h1,h2⟩:=qAa (l:=l) (t:=t) (fun p hp=>hk p (by simp[hp])) (fun p hp q hq=>hd p (by simp[hp]) q (by simp[hq]))
  refine⟨fun p hp=>?_,fun i hi=>?_⟩
  ·simp only[kM]
   rw[Tr.dG (hk (j,o) (by simp))]
   by_cases he:σ p.1=σ j
   ·have:= hd p hp (j,o) (by simp) he
    subst this
    rw[if_pos rfl]
    cases o<;>rfl
   ·rw[if_neg he]
    rcases fu.1 hp with hp | hp
    ·subst hp;exact(he rfl).elim
    ·exact h1 p hp
  ·simp only[kM]
   rw[Tr.dG (hk (j,o) (by simp)),if_neg (hi (j,o) (by simp))]
   exact h2 i (fun p hp=>hi p (by simp[hp]))
theorem qJP{ρ:List Nat}{φ:Phi}{j:Nat}{p:Nat×Nat×Nat×Nat}(h:iT (at0 0 ρ) φ j=some p):∃i,ρ[j]? = some i∧φ i=some p:=by
 unfold iT at h
 rw[tH] at h
 simp only[di,if_true,q9] at h
 split at h
 ·rename_i i hi;exact⟨i,hi,h⟩
 ·cases h
theorem iK{ρ:List Nat}{φ:Phi}{i j:Nat}(h:ρ[j]? = some i):iT (at0 0 ρ) φ j=φ i:=by
 unfold iT
 rw[tH]
 simp[h]
theorem Spec.gN{f:FuncId}{S:Spec reg.T}(hS:pX P f S)(M:qJO S)(hsz:∀a,(S.aL a).length≤1000000):∀args h Q,(S.con M args h).K Q →
  There P f∧∀N F φ w cargs,(∀r,Q r→bX N h.nx r.2.nx)→HR N F φ h w→eF F w φ args cargs→Calls P f cargs w (bY N F φ h w Q):=by
 intro args h Q hq
 unfold Spec.con at hq
 split at hq
 ·exact hq.elim
 rename_i a ρ hf
 obtain⟨hp,hq⟩:=Out.aO.1 hq
 rw[Out.aU,Out.bP] at hq
 obtain⟨q,hout0,hq⟩:=hq
 obtain⟨hc,hq⟩:=Out.bG.1 hq
 simp only[bu,ek] at hc
 obtain⟨⟨⟨hnd,hok⟩,hle⟩,hnx⟩:=hc
 have hle:ρ.length≤q.2.length:=bz hle
 obtain⟨hca,hln,hobj⟩:=M.ok args h.get a ρ hf
 have hsz:=hsz a
 refine⟨hS.1,fun N F φ w cargs hfr hH hl=>?_⟩
 have hfr:=hfr _ hq
 have hfr:∀i,h.nx≤i→i<h.nx+(q.2.length-ρ.length)→¬N i:=hfr
 have hnx:Tr.ok (h.nx+(q.2.length-ρ.length))=true:=hnx
 have hget:∀j,(lJ (S.aL a)).get j=(S.aL a)[j]?:=qBc (by omega)
 have hρ:∀j,j<ρ.length→∃(i:Nat) (u:O reg.T) (o:O reg.T),ρ[j]? = some i∧h.get i=some u∧(S.aL a)[j]? = some o∧qI7 (at0 0 ρ) o u:=by
  intro j hj
  have hj':j<(S.aL a).length:=by omega
  obtain⟨i,u,h1,h2,h3⟩:=hobj j _ (gu hj')
  exact⟨i,u,_,h1,h2,gu hj',h3⟩
 have hρN:∀j i:Nat,ρ[j]? = some i→N i:=by
  intro j i hi
  obtain⟨i',u,o,h1,h2,_⟩:=hρ j (eu.1 hi).1
  rw[hi] at h1
  cases h1
  exact hH.lt i u h2
 have hc0:iX reg F (iT (at0 0 ρ) φ) (fun j=>j<(S.aL a).length) (lJ (S.aL a)).get w:=by
  refine⟨fun j o ho=>?_,fun j o b s k ho hpj=>?_,fun j j' oj oj' b s1 k1 s2 k2 hj hj' hpj hpj'=>?_,fun j p hpj=>?_,fun j o ho=>?_,fun j hj=>?_,hH.frz,hH.lay⟩
  ·rw[hget] at ho
   obtain⟨i,u,h1,h2,h3⟩:=hobj j o ho
   exact qEu (by rw[tH];simpa using h1) h3 (hH.obj i u h2)
  ·rw[hget] at ho
   obtain⟨i,u,h1,h2,h3⟩:=hobj j o ho
   rw[iK h1] at hpj
   exact hH.own i u b s k h2 hpj
  ·rw[hget] at hj hj'
   obtain⟨i,u,h1,h2,_⟩:=hobj j oj hj
   obtain⟨i',u',h1',h2',_⟩:=hobj j' oj' hj'
   rw[iK h1] at hpj
   rw[iK h1'] at hpj'
   have:= hH.inj i i' u u' b s1 k1 s2 k2 h2 h2' hpj hpj'
   subst this
   exact vE hnd h1 h1'
  ·obtain⟨i,h1,_⟩:=qJP hpj
   have:= (eu.1 h1).1
   show j<_
   omega
  ·rw[hget] at ho
   exact(eu.1 ho).1
  ·have hj:j<(S.aL a).length:=hj
   unfold Tr.ok;simp;omega
 have hl0:eF F w (iT (at0 0 ρ) φ) (S.args a) cargs:=by
  obtain⟨h1,h2⟩:=wR hca
  exact⟨by rw[h1];exact hl.1,fun j hj=>(jV (hl.2 j (by omega)) (h2 j hj)).1⟩
 refine(hS.2 a hp F _ w cargs hc0 hl0 q hout0).mono fun e w' he=>?_
 obtain⟨cv,he,v1,h1,N1,F1,φ1,hcov,hv,hP,hG⟩:=he
 refine⟨cv,he,?_⟩
 obtain⟨hcb,hcv,hch⟩:=(aK _ _).1 hcov
 generalize wS (S.aL a).length h1.h v1 q.1 q.2=κ at hcb hcv hch
 simp only[bu,ek] at hcb
 obtain⟨⟨⟨hself,hκ⟩,hκlt⟩,_⟩:=hcb
 have hself:∀j,j<ρ.length→aQ κ j=some j:=fun j hj=>qC0 hself (by omega)
 have hκlt:∀j k,aQ κ j=some k→j<q.2.length:=fun j k hk=>by simpa using hκlt _ (fF hk)
 have hφ1:∀j i:Nat,ρ[j]? = some i→iT κ φ1 j=φ i:=by
  intro j i hi
  have hj:=(eu.1 hi).1
  unfold iT
  rw[hself j hj]
  show φ1 j=φ i
  rw[hG.goes.phi j (show j<_ by omega),iK hi]
 let σ:=qCa ρ.length h.nx ρ
 have hσold:∀j i:Nat,ρ[j]? = some i→σ j=i:=by
  intro j i hi
  have hj:=(eu.1 hi).1
  show qCa ρ.length h.nx ρ j=i
  unfold qCa
  rw[show Nat.blt j ρ.length=true by simpa using hj]
  simp[List.getD,hi]
 have hσnew:∀j,ρ.length≤j→σ j=h.nx+(j-ρ.length):=by
  intro j hj
  show qCa ρ.length h.nx ρ j=_
  unfold qCa
  rw[show Nat.blt j ρ.length=false by cases hb:Nat.blt j ρ.length with
  | false=>rfl
  | true=>have:= bz hb;omega]
  rfl
 let φ2:Phi:=fun i=>if h.nx≤i∧i<h.nx+(q.2.length-ρ.length) then iT κ φ1 (ρ.length+(i-h.nx)) else φ i
 have hφN:∀i,N i→φ2 i=φ i:=fun i hi=>if_neg (fun⟨a1,a2⟩=>hfr i a1 a2 hi)
 have hφσ:∀j,j<q.2.length→φ2 (σ j)=iT κ φ1 j:=by
  intro j hj
  by_cases hjn:j<ρ.length
  ·obtain⟨i,_,_,hi,_⟩:=hρ j hjn
   rw[hσold j i hi,hφN i (hρN j i hi),hφ1 j i hi]
  ·rw[hσnew j (by omega)]
   show(if _ then _ else _)=_
   rw[if_pos (by omega),show ρ.length+(h.nx+(j-ρ.length)-h.nx)=j by omega]
 have hφto:∀j p,iT κ φ1 j=some p→φ2 (σ j)=some p:=by
  intro j p hpj
  rw[hφσ j ?_,hpj]
  unfold iT at hpj
  split at hpj
  ·rename_i k hk;exact hκlt j k hk
  ·cases hpj
 have hσinj:∀j j',j<q.2.length→j' < q.2.length→σ j=σ j'→j=j':=by
  have key:∀j j',j<ρ.length→ρ.length≤j'→j' < q.2.length→σ j≠σ j':=by
   intro j j' hj hj1 hj2 he
   obtain⟨i,_,_,hi,_⟩:=hρ j hj
   rw[hσold j i hi,hσnew j' hj1] at he
   exact hfr i (by omega) (by omega) (hρN j i hi)
  intro j j' hj hj' he
  by_cases h1:j<ρ.length<;>by_cases h2:j' < ρ.length
  ·obtain⟨i,_,_,hi,_⟩:=hρ j h1
   obtain⟨i',_,_,hi',_⟩:=hρ j' h2
   rw[hσold j i hi,hσold j' i' hi'] at he
   subst he
   exact vE hnd hi hi'
  ·exact(key j j' h1 (by omega) hj' he).elim
  ·exact(key j' j h2 (by omega) hj he.symm).elim
  ·rw[hσnew j (by omega),hσnew j' (by omega)] at he;omega
 have hat:∀p∈at0 0 q.2,p.1<q.2.length∧q.2[p.1]? = some p.2:=by
  rintro⟨j,o⟩ hm
  have:= ((qAv 0 _ j o).1 hm).2
  simp only[q9] at this
  exact⟨(eu.1 this).1,this⟩
 have hσok:∀j,j<q.2.length→Tr.ok (σ j)=true:=by
  intro j hj
  by_cases h1:j<ρ.length
  ·obtain⟨i,_,_,hi,_⟩:=hρ j h1
   rw[hσold j i hi]
   exact hok i (ll hi)
  ·rw[hσnew j (by omega)]
   exact qEj hnx (by omega)
 obtain⟨hs1,hs2⟩:=qAa (σ:=σ) (l:=at0 0 q.2) (t:=h.h) (fun p hp=>hσok _ (hat p hp).1) (fun p hp q hq he=>by
  have e:=hσinj _ _ (hat p hp).1 (hat q hq).1 he
  have h1:=(hat p hp).2
  have h2:=(hat q hq).2
  rw[e,h2] at h1
  exact Prod.ext e (ik h1).symm)
 let h2:Hp reg.T:=⟨kM σ (at0 0 q.2) h.h,h.nx+(q.2.length-ρ.length),ρ++h.wr⟩
 have hout:∀(j:Nat) o,q.2[j]? = some o→h2.get (σ j)=o.map (O.ren σ):=fun j o ho=>hs1 (j,o) ((qAv 0 _ j o).2 ⟨di _,by simpa using ho⟩)
 have hother:∀i,(∀j,j<q.2.length→i≠σ j)→h2.get i=h.get i:=fun i hi=>hs2 i (fun p hp=>hi _ (hat p hp).1)
 have cases':∀i o,h2.get i=some o→(∃(j:Nat) (oj:O reg.T) (k:Nat) (u:O reg.T),q.2[j]? = some (some oj)∧σ j=i∧o=oj.ren σ∧aQ κ j=some k∧h1.get k=some u∧qI7 κ oj u)∨(h.get i=some o∧∀j:Nat,ρ[j]? ≠ some i):=by
  intro i o hi
  by_cases hj:∃j,j<q.2.length∧i=σ j
  ·obtain⟨j,hj,rfl⟩:=hj
   have ho:=gu hj
   rw[hout j _ ho] at hi
   cases hoj:q.2[j] with
   | none=>rw[hoj] at hi;simp at hi
   | some oj =>
    rw[hoj] at hi ho
    simp only[qo,cu] at hi
    obtain⟨k,u,b1,b2,b3⟩:=rJ hch ((qAv 0 _ j _).2 ⟨di _,by simpa using ho⟩)
    exact .inl ⟨j,oj,k,u,ho,rfl,hi.symm,b1,b2,b3⟩
  ·have hj:∀j,j<q.2.length→i≠σ j:=fun j h1 h2=>hj ⟨j,h1,h2⟩
   rw[hother i hj] at hi
   refine .inr ⟨hi,fun j hρj=>?_⟩
   exact hj j (gq (eu.1 hρj).1 hle) (hσold j i hρj).symm
 have hOwn:∀b,bR reg (iT (at0 0 ρ) φ) (lJ (S.aL a)).get b→bR reg φ h.get b:=by
  rintro b ⟨j,o,s,k,hj,hpj⟩
  rw[hget] at hj
  obtain⟨i,u,g1,g2,_⟩:=hobj j o hj
  rw[iK g1] at hpj
  exact⟨i,u,s,k,g2,hpj⟩
 have apart:∀i o b s k,h.get i=some o→(∀j:Nat,ρ[j]? ≠ some i)→φ i=some (b,s,k)→¬bR reg (iT (at0 0 ρ) φ) (lJ (S.aL a)).get b:=by
  rintro i o b s k hi hn hpi ⟨j,oj,s',k',hj,hpj⟩
  rw[hget] at hj
  obtain⟨i',u,g1,g2,_⟩:=hobj j oj hj
  rw[iK g1] at hpj
  have:= hH.inj i i' o u b s k s' k' hi g2 hpi hpj
  subst this
  exact hn j g1
 have keep:=hG.goes.keep hc0
 have keepφ:∀i p,φ i=some p→φ2 i=some p:=fun i p hpi=>(hφN i (hH.dom i p hpi)).trans hpi
 have oldb:∀i o b s k,h.get i=some o→(∀j:Nat,ρ[j]? ≠ some i)→φ i=some (b,s,k)→w'.heap[b]? = w.heap[b]?:=fun i o b s k hi hl hpi=>hG.goes.block b (hH.own i o b s k hi hpi).2 (apart i o b s k hi hl hpi)
 have oldF:∀i o b s k,h.get i=some o→(∀j:Nat,ρ[j]? ≠ some i)→φ i=some (b,s,k)→¬F1 b:=by
  intro i o b s k hi hl hpi hF
  rcases hG.goes.fnew b hF with g | g | g
  ·exact(hH.own i o b s k hi hpi).1 g
  ·have:= (hH.own i o b s k hi hpi).2;omega
  ·exact apart i o b s k hi hl hpi g
 have inner:∀(j:Nat) oj k u,q.2[j]? = some (some oj)→aQ κ j=some k→h1.get k=some u→φ2 (σ j)=φ1 k:=by
  intro j oj k u ho hk hu
  rw[hφσ j (eu.1 ho).1]
  unfold iT
  rw[hk]
 have mixed:∀k u i o b s z s' z',h1.get k=some u→φ1 k=some (b,s,z)→h.get i=some o→(∀j:Nat,ρ[j]? ≠ some i)→φ i=some (b,s',z')→False:=by
  intro k u i o b s z s' z' hk hpk hi hn hpi
  rcases hG.goes.dom b ⟨k,u,s,z,hk,hpk⟩ with g | g
  ·exact apart i o b s' z' hi hn hpi g
  ·have:= (hH.own i o b s' z' hi hpi).2;omega
 refine⟨q.1.ren σ,h2,fun i=>N i∨(h.nx≤i∧i<h.nx+(q.2.length-ρ.length)),F1,φ2,hq,wT hφto (jV hv hcv).1,?_,?_⟩
 ·refine⟨fun i o hi=>?_,fun i o b s k hi hpi=>?_,fun i i' o o' b s k s' k' hi hi' hpi hpi'=>?_,fun i p hpi=>?_,fun i o hi=>?_,fun i hi=>?_,hP.frz,hP.lay⟩
  ·rcases cases' i o hi with⟨j,oj,k,u,ho,rfl,rfl,hk,hu,hcj⟩ | ⟨hi,hn⟩
   ·exact qEx hφto (fun e=>by rw[hφσ j (eu.1 ho).1];exact e) (qEu hk hcj (hP.obj k u hu))
   ·exact(hH.obj i o hi).mono reg keep.1 keepφ (fun e=>(hφN i (hH.lt i o hi)).trans e) (fun b s k hpi=>oldb i o b s k hi hn hpi)
  ·rcases cases' i o hi with⟨j,oj,k',u,ho,rfl,rfl,hk,hu,hcj⟩ | ⟨hi,hn⟩
   ·rw[inner j oj k' u ho hk hu] at hpi
    exact hP.own k' u b s k hu hpi
   ·rw[hφN i (hH.lt i o hi)] at hpi
    exact⟨oldF i o b s k hi hn hpi,gq (hH.own i o b s k hi hpi).2 hG.goes.size⟩
  ·rcases cases' i o hi with⟨j,oj,m,u,ho,rfl,rfl,hk,hu,hcj⟩ | ⟨hi,hn⟩<;>rcases cases' i' o' hi' with⟨j',oj',m',u',ho',rfl,rfl,hk',hu',hcj'⟩ | ⟨hi',hn'⟩
   ·rw[inner j oj m u ho hk hu] at hpi
    rw[inner j' oj' m' u' ho' hk' hu'] at hpi'
    have:= hP.inj m m' u u' b s k s' k' hu hu' hpi hpi'
    subst this
    rw[uQ hκ hk hk']
   ·rw[inner j oj m u ho hk hu] at hpi
    rw[hφN i' (hH.lt i' o' hi')] at hpi'
    exact(mixed m u i' o' b s k s' k' hu hpi hi' hn' hpi').elim
   ·rw[inner j' oj' m' u' ho' hk' hu'] at hpi'
    rw[hφN i (hH.lt i o hi)] at hpi
    exact(mixed m' u' i o b s' k' s k hu' hpi' hi hn hpi).elim
   ·rw[hφN i (hH.lt i o hi)] at hpi
    rw[hφN i' (hH.lt i' o' hi')] at hpi'
    exact hH.inj i i' o o' b s k s' k' hi hi' hpi hpi'
  ·by_cases hnew:h.nx≤i∧i<h.nx+(q.2.length-ρ.length)
   ·exact .inr hnew
   ·have: φ2 i=φ i:=if_neg hnew
    rw[this] at hpi
    exact .inl (hH.dom i p hpi)
  ·rcases cases' i o hi with⟨j,oj,m,u,ho,rfl,rfl,hk,hu,hcj⟩ | ⟨hi,hn⟩
   ·by_cases hjn:j<ρ.length
    ·obtain⟨i,_,_,hi,_⟩:=hρ j hjn
     rw[hσold j i hi]
     exact .inl (hρN j i hi)
    ·have:= (eu.1 ho).1
     rw[hσnew j (by omega)]
     exact .inr (by omega)
   ·exact .inl (hH.lt i o hi)
  ·rcases hi with hi | hi
   ·exact hH.ok i hi
   ·exact qEj hnx hi.2
 ·refine⟨⟨hG.goes.os,hG.goes.tape,hG.goes.output,hG.goes.size,fun b hb hn=>hG.goes.block b hb (fun g=>hn (hOwn b g)),hG.goes.fsub,fun b hb=>?_,hφN,fun i hi=>.inl hi,fun b hb=>?_,fun i p hpi=>?_⟩,?_,fun i hi=>hi⟩
  ·rcases hG.goes.fnew b hb with g | g | g
   ·exact .inl g
   ·exact .inr (.inl g)
   ·exact .inr (.inr (hOwn b g))
  ·obtain⟨i,o,s,k,hi,hpi⟩:=hb
   rcases cases' i o hi with⟨j,oj,m,u,ho,rfl,rfl,hk,hu,hcj⟩ | ⟨hi,hn⟩
   ·rw[inner j oj m u ho hk hu] at hpi
    rcases hG.goes.dom b ⟨m,u,s,k,hu,hpi⟩ with g | g
    ·exact .inl (hOwn b g)
    ·exact .inr g
   ·rw[hφN i (hH.lt i o hi)] at hpi
    exact .inl ⟨i,o,s,k,hi,hpi⟩
  ·by_cases hnew:h.nx≤i∧i<h.nx+(q.2.length-ρ.length)
   ·have e:φ2 i=iT κ φ1 (ρ.length+(i-h.nx)):=if_pos hnew
    rw[e] at hpi
    unfold iT at hpi
    split at hpi
    ·rename_i m hm
     rcases hG.goes.new m p hpi with g | g | g
     ·have g:m<(S.aL a).length:=g
      have:= uQ hκ hm (hself m (by omega))
      omega
     ·exact .inr (.inl g)
     ·exact .inr (.inr (hOwn _ g))
    ·cases hpi
   ·have: φ2 i=φ i:=if_neg hnew
    rw[this] at hpi
    exact .inl (hH.dom i p hpi)
  ·refine⟨Nat.le_add_right _ _,ρ,rfl,fun i hi1 hi2=>hother i (fun j hj he=>?_)⟩
   by_cases hjn:j<ρ.length
   ·obtain⟨i',_,_,hi',_⟩:=hρ j hjn
    rw[hσold j i' hi'] at he
    subst he
    exact hi1 (ll hi')
   ·rw[hσnew j (by omega)] at he
    apply hi2
    show h.nx≤i∧i<h.nx+(q.2.length-ρ.length)
    omega
def Con.or{T:Nat→Type}(p:List (V T)→(Nat→Option (O T))→Bool)(x y:List (V T)→Hp T→Out (V T×Hp T))(args:List (V T))(h:Hp T):Out (V T×Hp T):=match p args h.get with
 | true=>x args h
 | false=>y args h
end
end Go.W
namespace Go.W
open Go Go.RowKit Go.ChangeShapes Go.WideShapes Go.ChangeAt
theorem qBd{H:Type}{enc:TypeId×Value→H}{C:Checked}{os:Os}{f:FuncId}{fn:Func}{s:ChangeSpec}{bt:TypeId}{X:World→Array Value→Prop}(hX:∀(w w':World) (args:Array Value),w.heap=w'.heap→X w args→X w' args)(own:ownKnob C.prog.godebug=none)(started:os.Started)
  (hl:laidOutB C.prog=true) (noInit:C.prog.inits.idxOf? f=none) (hfn:C.prog.funcs[f]? = some fn) (hread:∀t∈fn.params.toList,C.prog.readableRec t=true∧t<C.prog.types.size)
  (hres:fn.resultTypes = #[bt]) (hbt:C.prog.underlying bt=some .bool) (hvars:s.vars=[])
  (hs:∀ds:List (DataW H),ds.length=fn.params.size→s.fn H (ds++[]) = { results:=[.lit (.bool true)],args:=ds })
  (witness:∃(w:World) (tape:Tape) (i:Input),w.os=os∧(w.forCall tape i).Shaped C.prog∧i.vars=[]∧Input.okWide C.prog (w.forCall tape i) .any w.heap.size f i ∧
   ((s.pre enc C.prog fn [] false (w.forCall tape i).memory i.args∧X (w.forCall tape i).memory i.args)∧sizedMet enc C.prog fn (OpenSpec.ofChange s) false (w.forCall tape i).memory i.args)∧({}:Assume).holds C.prog (lone (Frame.enter C.prog f i.args .normal) [] (w.forCall tape i)))
  (walk:∀(W:World) (base:Nat) (args:Array Value) (ds:List (DataW H)) (ps:List MemPlace),(∀(j:Nat) t v,fn.params[j]? = some t→args[j]? = some v→Value.okWide C.prog W .any base t v) →
   (DataW.weightsEach C.prog fn.params.toList ds).all (·≤ reachBytes)=true→DataW.TrodAll enc C.prog W 0 (fun _=>true) true fn.params.toList args.toList ds ps→(∀x∈ps,x.block<W.heap.size)→X W args →
   Calls C.prog f args W fun e W'=>e=.returned (.bool true)∧Below W.heap.size W W') :
  ReturnsInHanded {} C os f .any (fun w args=>(s.pre enc C.prog fn [] false w args∧X w args)∧sizedMet enc C.prog fn (OpenSpec.ofChange s) false w args) (s.post enc C.prog fn false true false false):=by
 refine returnsInHanded_of_change_and (C:=C) hX own started noInit hfn witness ?_
 intro W base args ds gs before hok hW _ hwt hx _
 have hW':=hW
 obtain⟨p,q,hA,hV,rfl,hfz,hnd⟩:=hW
 rw[hvars] at hV
 obtain⟨rfl,rfl⟩:=trodVars_none hV
 have hwt':(DataW.weightsEach C.prog fn.params.toList ds).all (·≤ reachBytes)=true:=by
  have e:s.plain.varTypes C.prog=[]:=by simp[DataSpec.varTypes,ChangeSpec.plain,hvars]
  simpa [e] using hwt
 simp only[jy] at hW'
 have hlt:∀x∈p,x.block<W.heap.size:=fun x hx=>by simpa using hW'.lt x (by simpa using hx)
 have hlen:∀(ts:List TypeId) (vs:List Value) (ds:List (DataW H)) (ps:List MemPlace),DataW.TrodAll enc C.prog W 0 (fun _=>true) true ts vs ds ps→ds.length=ts.length:=by
  intro ts
  induction ts with
  | nil=>intro vs ds ps h;obtain⟨_,rfl,_⟩:=trodAll_nil h;rfl
  | cons t ts ih=>intro vs ds ps h;obtain⟨_,_,_,_,_,_,_,rfl,_,_,h2⟩:=trodAll_cons h;simp[ih _ _ _ h2]
 have hsp:=hs ds (by simpa using hlen _ _ _ _ hA)
 refine(walk W base args ds p hok hwt' hA hlt hx).mono fun e W' ⟨he,hb⟩=>?_
 subst he
 refine⟨_,rfl,ds,[],p,[],p,[],hW',?_,?_,?_,?_,fun h=>by cases h⟩
 ·rw[hsp,hres]
  exact trodAll_mk1 (shut_bool hbt true)
 ·rw[hsp]
  exact qBZ hl hb hread hA hlt
 ·rw[hsp,hvars]
  rfl
 ·exact hb.frame _
section
variable {reg:Reg} {P:Program}
end
end Go.W
namespace Go.W
open Go Go.RowKit
section
variable {T:Nat→Type}
end
section
variable {reg:Reg} {P:Program}
end
end Go.W
