/- Part of the proof. No conditions. -/
import Derived.Test.YtehpnjmgjmkjaaaGreatDoorVh
namespace Go.W
open Go Go.RowKit
section
variable (reg:Reg) (P:Program)
def qIs{α:Type}(ex:Nat→ExR reg.T)(fuel:Nat)(L J:Nat→St reg.T→Option (List Ld))(fn:Func)(args:List (V reg.T))(h:Hp reg.T)(k:V reg.T×Hp reg.T→DT α):DT α :=
 match fn.body with
 | none=>.bad
 | some c=>(match Nat.ble args.length fn.ntmps&&Nat.ble fn.ntmps 1000000 with
  | true=>trS vS (jZ args 0 .e) fun env=>oD reg (ex fn.ntmps) fuel h.nx L J c (fun r=>DT.gB ((tX P fn r).bind fun q=>lH reg ⟨h.h,h.nx,[]⟩ (q.1,⟨q.2.h,q.2.nx,List.range h.nx⟩)) k) ⟨env,h⟩
  | false=>.bad)
def qIt{α:Type}(ex:Nat→ExR reg.T)(fuel:Nat)(L J:Nat→St reg.T→Option (List Ld))(fn:Func)(args:List (V reg.T))(h:Hp reg.T)(k:V reg.T×Hp reg.T→DT α):DT α :=
 match fn.body with
 | none=>.bad
 | some c=>(match Nat.ble args.length fn.ntmps&&Nat.ble fn.ntmps 1000000 with
  | true=>trS vS (jZ args 0 .e) fun env=>oD reg (ex fn.ntmps) fuel h.nx L J c (fun r=>DT.gB (tX P fn r) k) ⟨env,h⟩
  | false=>.bad)
end
section
variable {reg:Reg} {P:Program} {hd:Hd reg.T}
theorem qMv{ex:Nat→ExR reg.T}(hex:∀nt,nt≤1000000→qEY P nt (ex nt)){fuel:Nat}{L J:Nat→St reg.T→Option (List Ld)}{f:FuncId}{fn:Func}(hfn:P.funcs[f]? = some fn){args:List (V reg.T)}{h:Hp reg.T}(hwr:h.wr=[]){α:Type}{k:V reg.T×Hp reg.T→DT α}{x:α}
  (hq:(qIs reg P ex fuel L J fn args h k).G x) {F:Nat→Prop} {φ:Phi} {w:World} {cargs:Array Value} (hH:HR (fun i=>i<h.nx) F φ h w) (hl:nL F w φ args cargs) :
  Calls P f cargs w (iF (fun i=>i<h.nx) F φ h w fun r=>(k r).G x):=by
 unfold qIs at hq
 split at hq
 ·exact hq.elim
 rename_i c hb
 split at hq
 ·rename_i hc
  rw[pI qHs] at hq
  simp only[Bool.and_eq_true] at hc
  have hle:args.length≤fn.ntmps:=by simpa using hc.1
  have hnt:fn.ntmps≤1000000:=Nat.le_of_ble_eq_true hc.2
  have hR0:=qBu (nt:=fn.ntmps) hH hl hle hnt
  have hh:(⟨h.h,h.nx,[]⟩:Hp reg.T)=h:=by cases h;simp only at hwr;rw[hwr]
  rw[hh] at hq
  refine calls_of_wp hfn hb (wp_mono (vL (n0:=h.nx) (F0:=F) (φ0:=φ) (H0:=h.get) (w0:=w) (hex _ hnt) c _ _ x hq ⟨_,F,φ,fun i hi=>hi,hR0,Goes.refl reg hH⟩) fun e a' w' he=>?_)
  have hfin:∀(r:aU×St reg.T) (Q:V reg.T×Hp reg.T→Prop),(tX P fn r).K Q→∃v,qPb P fn r.2=some v∧Q (v,r.2.hp)∧∀id,r.1≠.exit id:=by
   intro r Q hr
   obtain⟨e,st⟩:=r
   cases e with
   | normal=>obtain⟨v,h1,h2⟩:=kC hr;exact⟨v,h1,h2,fun id=>by simp⟩
   | ret=>obtain⟨v,h1,h2⟩:=kC hr;exact⟨v,h1,h2,fun id=>by simp⟩
   | exit id=>exact hr.elim
  have fin:∀(e':aU) st,(tX P fn (e',st)).K (fun q=>(lH reg h (q.1,⟨q.2.h,q.2.nx,List.range h.nx⟩)).K fun r=>(k r).G x)→RA h.nx F φ h.get w fn.ntmps st a' w'→a'.defers=[]∧∃cv,(results fn a'.tmps).run P w' = .ok cv w'∧iF (fun i=>i<h.nx) F φ h w (fun r=>(k r).G x) (.returned cv) w':=by
   rintro e' st hk ⟨N,F',φ',hN,hR,hG⟩
   obtain⟨v,h4,h5,_⟩:=hfin _ _ hk
   obtain⟨cv,h6,h7⟩:=uN hR h4
   obtain⟨r,h8,h9⟩:=(Out.gH _ _).1 h5
   have hnx:h.nx≤st.hp.nx:=by
    rcases Nat.eq_zero_or_pos h.nx with h0 | h0
    ·omega
    ·have:= hN (h.nx-1) (hG.names _ (show h.nx-1<h.nx by omega));omega
   have hres:Res (fun i=>i<h.nx) F φ h w (·= (v,⟨st.hp.h,st.hp.nx,List.range h.nx⟩)) cv w':=by
    refine⟨v,⟨st.hp.h,st.hp.nx,List.range h.nx⟩,N,F',φ',rfl,h7,hR.heap,⟨hG,⟨hnx,List.range h.nx,by rw[hwr,List.append_nil],fun i hi1 hi2=>?_⟩,fun i hi=>?_⟩⟩
    ·simp only[List.mem_range,Nat.not_lt] at hi1
     have h1:∀(H:Nat→Option (O reg.T)) (N:Nat→Prop) (F:Nat→Prop) (φ:Phi) (w:World) (n:Nat),qG reg F φ N H w→(∀i,N i→i<n)→n≤i→H i=none:=by
      intro H N F φ w n hH hN hi
      cases hHi:H i with
      | none=>rfl
      | some o=>have:= hN i (hH.lt i o hHi);omega
     have hi2:st.hp.nx≤i:=by
      have hi2:¬(h.nx≤i∧i<st.hp.nx):=hi2
      omega
     have e1:=h1 h.get _ F φ w h.nx hH (fun i hi=>hi) hi1
     have e2:st.hp.get i=none:=h1 st.hp.get N F' φ' w' st.hp.nx hR.heap hN hi2
     rw[e1];exact e2
    ·by_cases h1:i<h.nx
     ·exact .inl h1
     ·exact .inr ⟨by omega,hN i hi⟩
   obtain⟨v2,h2',N2,F2,φ2,e2,a,b,c⟩:=(qBw h8).2 _ F φ w cv w' hres
   exact⟨hR.dfs,cv,h6,cv,rfl,v2,h2',N2,F2,φ2,e2▸h9,a,b,c⟩
  have split:∀(e':aU) st,(DT.gB ((tX P fn (e',st)).bind fun q=>lH reg h (q.1,⟨q.2.h,q.2.nx,List.range h.nx⟩)) k).G x→(tX P fn (e',st)).K (fun q=>(lH reg h (q.1,⟨q.2.h,q.2.nx,List.range h.nx⟩)).K fun r=>(k r).G x):=by
   intro e' st hk
   have:= DT.kD hk
   rw[Out.dP] at this
   exact this
  cases e with
  | normal=>obtain⟨st,hq,_,_,hR⟩:=he;exact fin _ st (split _ _ hq) hR
  | ret=>obtain⟨st,hq,_,_,hR⟩:=he;exact fin _ st (split _ _ hq) hR
  | exit id =>
   obtain⟨st,hq,_,_,hR⟩:=he
   obtain⟨_,_,_,h6⟩:=hfin _ _ (split _ _ hq)
   exact(h6 id rfl).elim
  | goto l=>exact he.elim
  | panic ch=>exact he.elim
  | outgrown=>exact he.elim
 ·exact hq.elim
theorem qMw{ex:Nat→ExR reg.T}(hex:∀nt,nt≤1000000→qEY P nt (ex nt)){fuel:Nat}{L J:Nat→St reg.T→Option (List Ld)}{f:FuncId}{fn:Func}(hfn:P.funcs[f]? = some fn){args:List (V reg.T)}{h:Hp reg.T}{α:Type}{k:V reg.T×Hp reg.T→DT α}{x:α}
  (hq:(qIt reg P ex fuel L J fn args h k).G x) {F:Nat→Prop} {φ:Phi} {w:World} {cargs:Array Value} (hH:HR (fun i=>i<h.nx) F φ h w) (hl:nL F w φ args cargs) :
  Calls P f cargs w (iF (fun i=>i<h.nx) F φ h w fun r=>(k r).G x):=by
 unfold qIt at hq
 split at hq
 ·exact hq.elim
 rename_i c hb
 split at hq
 ·rename_i hc
  rw[pI qHs] at hq
  simp only[Bool.and_eq_true] at hc
  have hle:args.length≤fn.ntmps:=by simpa using hc.1
  have hnt:fn.ntmps≤1000000:=Nat.le_of_ble_eq_true hc.2
  refine calls_of_wp hfn hb (wp_mono (vL (n0:=h.nx) (F0:=F) (φ0:=φ) (H0:=h.get) (w0:=w) (hex _ hnt) c _ _ x hq ⟨_,F,φ,fun i hi=>hi,qBu hH hl hle hnt,Goes.refl reg hH⟩) fun e a' w' he=>?_)
  have hfin:∀(r:aU×St reg.T) (Q:V reg.T×Hp reg.T→Prop),(tX P fn r).K Q→∃v,qPb P fn r.2=some v∧Q (v,r.2.hp)∧∀id,r.1≠.exit id:=by
   intro r Q hr
   obtain⟨e,st⟩:=r
   cases e with
   | normal=>obtain⟨v,h1,h2⟩:=kC hr;exact⟨v,h1,h2,fun id=>by simp⟩
   | ret=>obtain⟨v,h1,h2⟩:=kC hr;exact⟨v,h1,h2,fun id=>by simp⟩
   | exit id=>exact hr.elim
  have fin:∀(e':aU),pJ h.nx F φ h.get w fn.ntmps (defs c) ⟨jZ args 0 .e,h⟩ (fun q=>DT.gB (tX P fn q) k) x e' a' w'→a'.defers=[]∧∃cv,(results fn a'.tmps).run P w' = .ok cv w'∧iF (fun i=>i<h.nx) F φ h w (fun r=>(k r).G x) (.returned cv) w':=by
   rintro e' ⟨st,hk,_,hgr,N,F',φ',hN,hR,hG⟩
   obtain⟨v,h4,h5,_⟩:=hfin _ _ (DT.kD hk)
   obtain⟨cv,h6,h7⟩:=uN hR h4
   have hgr:Grow h st.hp:=hgr
   refine⟨hR.dfs,cv,h6,cv,rfl,v,st.hp,N,F',φ',h5,h7,hR.heap,⟨hG,hgr,fun i hi=>?_⟩⟩
   by_cases h1:i<h.nx
   ·exact .inl h1
   ·exact .inr ⟨by omega,hN i hi⟩
  cases e with
  | normal=>exact fin _ he
  | ret=>exact fin _ he
  | exit id =>
   obtain⟨st,hk,_⟩:=he
   obtain⟨_,_,_,h6⟩:=hfin _ _ (DT.kD hk)
   exact(h6 id rfl).elim
  | goto l=>exact he.elim
  | panic ch=>exact he.elim
  | outgrown=>exact he.elim
 ·exact hq.elim
theorem qUU{ex:Nat→ExR reg.T}(hex:∀nt,nt≤1000000→qEY P nt (ex nt)){fuel:Nat}{L J:Nat→St reg.T→Option (List Ld)}{f:FuncId}{fn:Func}(hfn:P.funcs[f]? = some fn)(ht:There P f){ka kr:List Kd}(hkr:kr.all eH=true){pre:Cs reg ka→Bool}{M:Cs reg ka→Cs reg kr}
  (h:∀a,pre a=true→(qIs reg P ex fuel L J fn (qD4 reg ka a) ⟨.e,0,[]⟩ (qZK reg kr)).G (M a)):xX P f (qB4 reg ka kr pre M):=by
 refine⟨ht,fun a hp F φ w cargs hH hl q hq=>?_⟩
 have hq:(encR reg kr (M a),([]:List (Option (O reg.T))))=q:=hq
 subst hq
 refine(qMv hex hfn (h:=vH []) rfl (h a hp) hH hl).mono fun e w' he=>?_
 obtain⟨cv,he,v,h',N',F',φ',hq',hv,hH',hG⟩:=he
 refine⟨cv,he,v,h',N',F',φ',?_,hv,hH',hG⟩
 unfold qZK at hq'
 split at hq'
 ·rename_i b x hx
  obtain⟨_,hq'⟩:=qAx hq'
  have hq':x=M a:=hq'
  subst hq'
  exact qJ4 hx hkr
 ·exact hq'.elim
end
inductive Ans where
 | one (k:Kd)
 | st (ks:List Kd)
 | ptr (j:Nat) (ks:List Kd)
section
variable (reg:Reg)
def Ans.T:Ans→Type
 | .one k=>k.T reg
 | .st ks=>Cs reg ks
 | .ptr _ ks=>Cs reg ks
def Ans.names:Ans→List Nat
 | .one k=>k.names
 | .st ks=>ks.flatMap Kd.names
 | .ptr j ks=>j::ks.flatMap Kd.names
def Ans.enc:(r:Ans)→r.T reg→V reg.T
 | .one k,x=>qJt reg k x
 | .st ks,x=>.agg (Cs.enc reg ks x)
 | .ptr j _,_=>.ptr j 0 0
def Ans.bY:(r:Ans)→r.T reg→List (Nat×O reg.T)
 | .one k,x=>k.bY reg x
 | .st ks,x=>Cs.bY reg ks x
 | .ptr j ks,x=>(j,.rows (Cs.enc reg ks x).length [Cs.enc reg ks x])::Cs.bY reg ks x
def qRI(v:V reg.T)(g:Nat→Option (O reg.T)):Option (Nat×List (V reg.T)):=match v with
 | .ptr i r o=>(match Nat.beq r 0&&Nat.beq o 0 with
  | true=>(match g i with
   | some (.rows _ [cs])=>some (i,cs)
   | _=>none)
  | false=>none)
 | _=>none
theorem zCn{v:V reg.T}{g:Nat→Option (O reg.T)}{i:Nat}{cs:List (V reg.T)}(h:qRI reg v g=some (i,cs)):v=.ptr i 0 0∧∃k,g i=some (.rows k [cs]):=by
 unfold qRI at h
 split at h
 ·rename_i i' r o
  split at h
  ·rename_i hb
   simp only[Bool.and_eq_true] at hb
   have h1:=Nat.eq_of_beq_eq_true hb.1
   have h2:=Nat.eq_of_beq_eq_true hb.2
   subst h1 h2
   split at h
   ·rename_i k cs' hg
    cases h
    exact⟨rfl,k,hg⟩
   ·cases h
  ·cases h
 ·cases h
def Ans.read:(r:Ans)→V reg.T→(Nat→Option (O reg.T))→Option (Ob×r.T reg×Rho)
 | .one k,v,g=>(match vI reg k v g with | some (b,x,o)=>some (b,x,kS k o []) | none=>none)
 | .st ks,v,g=>(match v with | .agg cs=>xY reg ks cs g | _=>none)
 | .ptr j ks,v,g=>(match qRI reg v g with
  | some (i,cs)=>(match xY reg ks cs g with | some (b,x,l)=>some (b,x,(j,some i)::l) | none=>none)
  | none=>none)
def Ans.frz(r:Ans)(v:V reg.T)(l:List Nat):List Nat:=match r,v with
 | .one k,v=>(match zBY k with | true=>l | false=>qEW [v] l)
 | .st ks,.agg cs=>qEW (qPt reg ks cs) l
 | _,_=>l
def fV:List Ans→Type
 | []=>Unit
 | r::rs=>r.T reg×fV rs
def fV.enc:(rs:List Ans)→fV reg rs→List (V reg.T)
 | [],_=>[]
 | r::rs,x=>r.enc reg x.1::fV.enc rs x.2
def fV.bY:(rs:List Ans)→fV reg rs→List (Nat×O reg.T)
 | [],_=>[]
 | r::rs,x=>r.bY reg x.1++fV.bY rs x.2
def fV.read:(rs:List Ans)→List (V reg.T)→(Nat→Option (O reg.T))→Option (Ob×fV reg rs×Rho)
 | [],vs,_=>(match vs with | []=>some (none,(),[]) | _=>none)
 | r::rs,vs,g=>(match vs with
  | v::vs=>(match r.read reg v g,fV.read rs vs g with
   | some (b,x,ρ),some (b',y,ρ')=>some (qZE b b',(x,y),ρ++ρ')
   | _,_=>none)
  | []=>none)
def fV.frz:List Ans→List (V reg.T)→List Nat→List Nat
 | r::rs,v::vs,l=>fV.frz rs vs (r.frz reg v l)
 | _,_,l=>l
def zCo{T:Nat→Type}(rs:List Ans)(v:V T):List (V T):=match rs with
 | [_]=>[v]
 | _=>(match v with | .tup vs=>vs | _=>[])
def qJC(rs:List Ans)(x:fV reg rs):V reg.T:=match rs,x with
 | [r],x=>r.enc reg x.1
 | rs,x=>.tup (fV.enc reg rs x)
def zLm(_rs:List Ans)(ρ:Rho):Bool:=iZ (qBc ρ)&&iZ (ρ.map (·.1))
def zJl(rs:List Ans)(q:V reg.T×Hp reg.T):DT (fV reg rs) :=
 DT.gB (match fV.frz reg rs (zCo rs q.1) [] with
  | []=>.ret q
  | i::l=>qDT reg (List.range q.2.nx) (zBZ q.2.get (i::l)) q) fun q=>(match fV.read reg rs (zCo rs q.1) q.2.get with
   | some (b,x,ρ)=>(match zLm rs ρ with | true=>qJs b (.ret x) | false=>.bad)
   | none=>.bad)
def kU(rs:List Ans)(x:fV reg rs):List (O reg.T):=(fV.bY reg rs x).map (·.2)
def qEb(ka:List Kd)(kr:List Ans)(pre:Cs reg ka→Bool)(M:Cs reg ka→fV reg kr):Spec reg.T :=
 ⟨Cs reg ka,qD4 reg ka,fun _=>[],pre,fun a=>.ret (qJC reg kr (M a),(kU reg kr (M a)).map some)⟩
def V.qGu{T:Nat→Type}(ρ:List (Nat×Nat)):V T→Bool
 | .d _=>true
 | .ptr i _ _=>vF ρ i i
 | .sl i _ _ _=>vF ρ i i
 | .agg vs=>goL ρ vs
 | .tup vs=>goL ρ vs
 | _=>false
where goL {T:Nat→Type} (ρ:List (Nat×Nat)):List (V T)→Bool
 | []=>true
 | v::vs=>V.qGu ρ v&&goL ρ vs
def zG5{T:Nat→Type}(ρ:List (Nat×Nat)):Nat→List (O T)→Bool
 | _,[]=>true
 | n,.trows _ _::os=>vF ρ n n&&zG5 ρ (n+1) os
 | _,_=>false
def qRJ(kr:List Ans)(x:fV reg kr):Bool :=
 let os:=(kU reg kr x).map some
 let ρ:=qER 0 (vH (kU reg kr x)).h (qJC reg kr x) (qJC reg kr x) os
 (iZ (ρ.map (·.2))&&(ρ.all fun p=>Nat.blt p.1 os.length))&&V.qGu ρ (qJC reg kr x)&&zG5 ρ 0 (kU reg kr x)&&eqN ((fV.bY reg kr x).map (·.1)) 0&&Nat.ble (kU reg kr x).length 1000
where eqN:List Nat→Nat→Bool
 | [],_=>true
 | i::l,n=>Nat.beq i n&&eqN l (n+1)
end
section
variable {reg:Reg} {P:Program} {hd:Hd reg.T}
theorem qZR{ρ:List (Nat×Nat)}:∀(v:V reg.T),V.qGu ρ v=true→lI ρ v v:=by
 have key:∀(n:Nat) (v:V reg.T),SizeOf.sizeOf v<n→V.qGu ρ v=true→lI ρ v v:=by
  intro n
  induction n with
  | zero=>intro v h;omega
  | succ n ih =>
   have goL:∀vs:List (V reg.T),SizeOf.sizeOf vs<n+1→V.qGu.goL ρ vs=true→lI.goL ρ vs vs:=by
    intro vs
    induction vs with
    | nil=>intro _ _;exact trivial
    | cons v vs ihv =>
     intro hs h
     simp only[List.cons.sizeOf_spec] at hs
     simp only[V.qGu.goL,Bool.and_eq_true] at h
     exact⟨ih v (by omega) h.1,ihv (by omega) h.2⟩
   intro v hs h
   cases v with
   | d x=>exact qO x
   | ptr i r o=>exact(bE _ _).2 ⟨h,rfl,rfl⟩
   | sl i off len cap=>exact(bE _ _).2 ⟨h,rfl,rfl,by cases cap with | exact c=>exact rfl | least c=>exact Nat.le_refl c⟩
   | agg vs=>simp only[V.agg.sizeOf_spec] at hs;exact goL vs (by omega) h
   | tup vs=>simp only[V.tup.sizeOf_spec] at hs;exact goL vs (by omega) h
   | _=>cases h
 intro v
 exact key (SizeOf.sizeOf v+1) v (by omega)
theorem qRK{ρ:List (Nat×Nat)}{i j:Nat}(h:vF ρ i j=true):dH ρ i=some j:=by
 unfold vF at h
 split at h
 ·rename_i k hk;rw[hk,Nat.eq_of_beq_eq_true h]
 ·cases h
theorem qRL{ρ:List (Nat×Nat)}{g:Tr (O reg.T)}:∀{os:List (O reg.T)} {n:Nat},zG5 ρ n os=true→(∀j,j<os.length→g.get (n+j)=os[j]?)→wP ρ g (at0 n (os.map some))
 | [],n,_,_=>trivial
 | o::os,n,h,hg=>by
  cases o with
  | trows e xs =>
   simp only[zG5,Bool.and_eq_true] at h
   have h0:=hg 0 (by simp)
   simp only[Nat.add_zero,List.getElem?_cons_zero] at h0
   simp only[List.map,at0,wP,qRK h.1,h0]
   refine⟨rfl,qRL h.2 fun j hj=>?_⟩
   have:= hg (j+1) (by simpa using hj)
   rw[show n+1+j=n+(j+1) by omega,this];simp
  | _=>cases h
theorem zCp{kr:List Ans}{x:fV reg kr}(h:qRJ reg kr x=true):zG0 0 (qJC reg kr x,vH (kU reg kr x)) (qJC reg kr x) ((kU reg kr x).map some):=by
 unfold qRJ at h
 simp only[Bool.and_eq_true] at h
 obtain⟨⟨⟨⟨⟨h1,h2⟩,h3⟩,h4⟩,h5⟩,h6⟩:=h
 have h6:(kU reg kr x).length≤1000:=Nat.le_of_ble_eq_true h6
 refine(bE _ _).2 ⟨?_,qZR _ h3,qRL h4 fun j hj=>?_⟩
 ·simp only[Bool.and_eq_true]
  exact⟨⟨⟨rfl,h1⟩,h2⟩,Nat.ble_eq_true_of_le (Nat.zero_le _)⟩
 ·rw[Nat.zero_add];exact qJo (by omega) j
theorem qP4:∀{l:List Nat} {n:Nat},qRJ.eqN l n=true→∀j,j<l.length→l[j]? = some (n+j)
 | [],n,_,j,hj=>by simp at hj
 | i::l,n,h,j,hj=>by
  simp only[qRJ.eqN,Bool.and_eq_true] at h
  cases j with
  | zero=>simp[Nat.eq_of_beq_eq_true h.1]
  | succ j =>
   have:= qP4 h.2 j (by simpa using hj)
   simp only[List.getElem?_cons_succ,this]
   congr 1;omega
theorem Ans.zG6{k:Kd}{v:V reg.T}{g:Nat→Option (O reg.T)}{x:k.T reg}{ρ:Rho}{b:Ob}(h:Ans.read reg (.one k) v g=some (b,x,ρ))(hb:okO b=true) :
  ρ.map (·.1)=k.names∧(∀(F:Nat→Prop) (w:World) (φ φ':Phi),Agree ρ φ φ'→∀cv,aK reg F w φ v cv→aK reg F w φ' (qJt reg k x) cv) ∧
   ∀i ob,(i,ob)∈k.bY reg x→∃o,(i,o)∈ρ∧yS ρ g i o ob:=by
 have h:(match vI reg k v g with | some (b,x,o)=>some (b,x,kS k o []) | none=>none)=some (b,x,ρ):=h
 cases hr:vI reg k v g with
 | none=>rw[hr] at h;cases h
 | some q =>
  obtain⟨b',x',o⟩:=q
  rw[hr] at h
  have h:=Option.some.inj h
  have e1:b' = b:=congrArg Prod.fst h
  have e2:x' = x:=congrArg (fun q:Ob×k.T reg×Rho=>q.2.1) h
  have e3:kS k o []=ρ:=congrArg (fun q:Ob×k.T reg×Rho=>q.2.2) h
  subst e1 e2 e3
  obtain⟨_,h2,h3⟩:=qMT hr hb
  exact⟨by rw[qDX];simp,h2,fun i ob hi=>⟨o,h3 i ob hi⟩⟩
theorem Ans.zJm{ks:List Kd}{v:V reg.T}{g:Nat→Option (O reg.T)}{x:Cs reg ks}{ρ:Rho}{b:Ob}(h:Ans.read reg (.st ks) v g=some (b,x,ρ))(hb:okO b=true) :
  ρ.map (·.1)=ks.flatMap Kd.names∧(∀(F:Nat→Prop) (w:World) (φ φ':Phi),Agree ρ φ φ'→∀cv,aK reg F w φ v cv→aK reg F w φ' (.agg (Cs.enc reg ks x)) cv) ∧
   ∀i ob,(i,ob)∈Cs.bY reg ks x→∃o,(i,o)∈ρ∧yS ρ g i o ob:=by
 cases v with
 | agg cs =>
  have h:xY reg ks cs g=some (b,x,ρ):=h
  obtain⟨h1,h2,h3,h4,h5⟩:=qAy h hb
  refine⟨h1,fun F w φ φ' ha cv hv=>?_,h5⟩
  cases hv with
  | agg _ cs' hz hh=>exact .agg _ _ (h2.trans hz) fun j hj=>h4 F w φ φ' ha j _ (by omega) (hh j (by omega))
 | _=>cases h
theorem Ans.zG7{j:Nat}{ks:List Kd}{v:V reg.T}{g:Nat→Option (O reg.T)}{x:Cs reg ks}{ρ:Rho}{b:Ob}(h:Ans.read reg (.ptr j ks) v g=some (b,x,ρ))(hb:okO b=true) :
  ρ.map (·.1)=j::ks.flatMap Kd.names∧(∀(F:Nat→Prop) (w:World) (φ φ':Phi),Agree ρ φ φ'→∀cv,aK reg F w φ v cv→aK reg F w φ' (.ptr j 0 0) cv) ∧
   ∀i ob,(i,ob)∈Ans.bY reg (.ptr j ks) x→∃o,(i,o)∈ρ∧yS ρ g i o ob:=by
 have h:(match qRI reg v g with
  | some (i,cs)=>(match xY reg ks cs g with | some (b,x,l)=>some (b,x,(j,some i)::l) | none=>none)
  | none=>none)=some (b,x,ρ):=h
 cases ho:qRI reg v g with
 | none=>rw[ho] at h;cases h
 | some q =>
  obtain⟨i,cs⟩:=q
  obtain⟨rfl,k,hg⟩:=zCn reg ho
  rw[ho] at h
  simp only at h
  cases hr:xY reg ks cs g with
  | none=>rw[hr] at h;cases h
  | some q =>
   obtain⟨b',y,l⟩:=q
   rw[hr] at h
   have h:=Option.some.inj h
   have e1:b' = b:=congrArg Prod.fst h
   have e2:y=x:=congrArg (fun q:Ob×Cs reg ks×Rho=>q.2.1) h
   have e3:(j,some i)::l=ρ:=congrArg (fun q:Ob×Cs reg ks×Rho=>q.2.2) h
   subst e1 e2 e3
   obtain⟨h0,h1,h2,h3,h4⟩:=qAy hr hb
   have s2:∀p∈l,p∈(j,some i)::l:=fun p hp=>by simp[hp]
   refine⟨by simp[h0],fun F w φ φ' ha cv hv=>?_,fun i' ob hm=>?_⟩
   ·cases hv with
    | ptr _ _ _ bb s k z hp=>exact .ptr j 0 0 bb s k z ((ha j (some i) (by simp)).trans hp)
   ·have hm:(i',ob)∈(j,O.rows (Cs.enc reg ks y).length [Cs.enc reg ks y])::Cs.bY reg ks y:=hm
    simp only[List.mem_cons,Prod.mk.injEq] at hm
    rcases hm with⟨rfl,rfl⟩ | hm
    ·exact⟨some i,by simp,_,hg,fun F w φ φ' ha hi ho=>qR2 h1 h2 (fun c cv hc hv=>h3 F w φ φ' (ha.sub s2) c cv hc hv) hi ho⟩
    ·obtain⟨o,c1,c2⟩:=h4 i' ob hm
     exact⟨o,s2 _ c1,c2.sub s2⟩
theorem Ans.lM{r:Ans}{v:V reg.T}{g:Nat→Option (O reg.T)}{x:r.T reg}{ρ:Rho}{b:Ob}(h:r.read reg v g=some (b,x,ρ))(hb:okO b=true) :
  ρ.map (·.1)=r.names∧(∀(F:Nat→Prop) (w:World) (φ φ':Phi),Agree ρ φ φ'→∀cv,aK reg F w φ v cv→aK reg F w φ' (r.enc reg x) cv) ∧
   ∀i ob,(i,ob)∈r.bY reg x→∃o,(i,o)∈ρ∧yS ρ g i o ob:=by
 cases r with
 | one k=>exact Ans.zG6 h hb
 | st ks=>exact Ans.zJm h hb
 | ptr j ks=>exact Ans.zG7 h hb
theorem fV.lM:∀{rs:List Ans} {vs:List (V reg.T)} {g:Nat→Option (O reg.T)} {x:fV reg rs} {ρ:Rho} {b:Ob},fV.read reg rs vs g=some (b,x,ρ)→okO b=true →
  ρ.map (·.1)=rs.flatMap Ans.names∧(fV.enc reg rs x).length=vs.length∧(∀(F:Nat→Prop) (w:World) (φ φ':Phi),Agree ρ φ φ'→∀j cv,j<vs.length→aK reg F w φ (vs.getD j .any) cv→aK reg F w φ' ((fV.enc reg rs x).getD j .any) cv) ∧
   ∀i ob,(i,ob)∈fV.bY reg rs x→∃o,(i,o)∈ρ∧yS ρ g i o ob
 | [],vs,g,x,ρ,b,h,hb=>by
  simp only[fV.read] at h
  split at h
  ·cases h
   exact⟨rfl,rfl,fun _ _ _ _ _ j _ hj=>by simp at hj,fun i ob hi=>by simp[fV.bY] at hi⟩
  ·cases h
 | r::rs,vs,g,x,ρ,_,h,hb=>by
  simp only[fV.read] at h
  split at h
  ·rename_i v vs
   split at h
   ·rename_i b1 x1 ρ1 b2 y ρ2 e1 e2
    simp only[Option.some.injEq,Prod.mk.injEq] at h
    obtain⟨rfl,rfl,rfl⟩:=h
    obtain⟨hb1,hb2⟩:=qPs hb
    obtain⟨a1,a2,a3⟩:=Ans.lM e1 hb1
    obtain⟨c1,c2,c3,c4⟩:=fV.lM e2 hb2
    have s1:∀p∈ρ1,p∈ρ1++ρ2:=fun p hp=>List.mem_append_left _ hp
    have s2:∀p∈ρ2,p∈ρ1++ρ2:=fun p hp=>List.mem_append_right _ hp
    refine⟨by simp[a1,c1],by simp only[fV.enc,List.length_cons,c2],fun F w φ φ' ha j cv hj hv=>?_,fun i ob hi=>?_⟩
    ·cases j with
     | zero=>exact a2 F w φ φ' (ha.sub s1) cv (by simpa using hv)
     | succ j =>
      have:= c3 F w φ φ' (ha.sub s2) j cv (by simpa using hj) (by simpa using hv)
      simpa [fV.enc] using this
    ·simp only[fV.bY,List.mem_append] at hi
     rcases hi with hi | hi
     ·obtain⟨o,d1,d2⟩:=a3 i ob hi;exact⟨o,s1 _ d1,d2.sub s1⟩
     ·obtain⟨o,d1,d2⟩:=c4 i ob hi;exact⟨o,s2 _ d1,d2.sub s2⟩
   ·cases h
  ·cases h
theorem zCq{rs:List Ans}{v:V reg.T}{g:Nat→Option (O reg.T)}{x:fV reg rs}{ρ:Rho}{b:Ob}(hne:rs≠[])(h:fV.read reg rs (zCo rs v) g=some (b,x,ρ))(hb:okO b=true){F:Nat→Prop}{w:World}{φ φ':Phi}(ha:Agree ρ φ φ'){cv:Value}(hv:aK reg F w φ v cv):aK reg F w φ' (qJC reg rs x) cv:=by
 obtain⟨_,h2,h3,_⟩:=fV.lM h hb
 match rs,x,h,h2,h3,hne with
 | [r],x,h,h2,h3,_=>exact h3 F w φ φ' ha 0 cv (by simp[zCo]) (by simpa [zCo] using hv)
 | [],x,h,h2,h3,hne=>exact(hne rfl).elim
 | r::s::rs,x,h,h2,h3,_ =>
  cases v with
  | tup vs =>
   have h2:(fV.enc reg (r::s::rs) x).length=vs.length:=h2
   cases hv with
   | tup _ cs hz hh=>exact .tup _ cs (h2.trans hz) fun j hj=>h3 F w φ φ' ha j _ (by show j<vs.length;omega) (hh j (by omega))
  | _=>cases h
theorem qFc{α:Type}:∀{l:List (Nat×α)} {m:Nat} {o:α},iZ (l.map (·.1))=true→(m,o)∈l→dH l m=some o
 | [],_,_,_,h=>by cases h
 | (i,x)::l,m,o,hn,h=>by
  simp only[List.map,iZ,Bool.and_eq_true,Bool.not_eq_true'] at hn
  simp only[dH]
  rcases List.mem_cons.1 h with e | e
  ·cases e;rw[Nat.beq_refl]
  ·have hne:Nat.beq i m=false:=by
    cases hb:Nat.beq i m with
    | false=>rfl
    | true =>
     have:= Nat.eq_of_beq_eq_true hb
     subst this
     have: kQ (l.map (·.1)) i=true:=gW.2 (List.mem_map.2 ⟨_,e,rfl⟩)
     rw[hn.1] at this;cases this
   rw[hne]
   exact qFc hn.2 e
theorem Kd.eU{k:Kd}{x:k.T reg}:(k.bY reg x).map (·.1)=k.names:=by cases k<;>rfl
theorem Cs.eU:∀{ks:List Kd} {x:Cs reg ks},(Cs.bY reg ks x).map (·.1)=ks.flatMap Kd.names
 | [],_=>rfl
 | k::ks,x=>by simp only[Cs.bY,List.map_append,List.flatMap_cons,Kd.eU,Cs.eU]
theorem fV.eU:∀{rs:List Ans} {x:fV reg rs},(fV.bY reg rs x).map (·.1)=rs.flatMap Ans.names
 | [],_=>rfl
 | r::rs,x=>by
  simp only[fV.bY,List.map_append,List.flatMap_cons,fV.eU]
  cases r with
  | one k=>exact congrArg (·++ _) (Kd.eU (k:=k))
  | st ks=>exact congrArg (·++ _) (Cs.eU (ks:=ks))
  | ptr j ks=>exact congrArg (fun l=>(j::l)++_) (Cs.eU (ks:=ks))
theorem qUV{ex:Nat→ExR reg.T}(hex:∀nt,nt≤1000000→qEY P nt (ex nt)){fuel:Nat}{L J:Nat→St reg.T→Option (List Ld)}{f:FuncId}{fn:Func}(hfn:P.funcs[f]? = some fn)(ht:There P f){ka:List Kd}{kr:List Ans}(hne:kr≠[])(hly:∀x,qRJ reg kr x=true){pre:Cs reg ka→Bool}{M:Cs reg ka→fV reg kr}
  (h:∀a,pre a=true→(qIt reg P ex fuel L J fn (qD4 reg ka a) ⟨.e,0,[]⟩ (zJl reg kr)).G (M a)):xX P f (qEb reg ka kr pre M):=by
 refine⟨ht,fun a hp F φ w cargs hH hl0 q hq=>?_⟩
 have hq:(qJC reg kr (M a),(kU reg kr (M a)).map some)=q:=hq
 subst hq
 refine(qMw hex hfn (h:=vH []) (h a hp) hH hl0).mono fun e w' he=>?_
 obtain⟨cv,he,v,h',N',F',φ',hq',hv,hH',hG⟩:=he
 refine⟨cv,he,?_⟩
 unfold zJl at hq'
 obtain⟨q,hK,hq'⟩:=(Out.gH _ _).1 (DT.kD hq')
 have step:∃N2 F2 φ2,aK reg F2 w' φ2 q.1 cv∧HR N2 F2 φ2 q.2 w'∧GO (fun j=>j<0) F φ (vH []) w N2 F2 φ2 q.2 w':=by
  split at hK
  ·cases hK;exact⟨N',F',φ',hv,hH',hG⟩
  ·obtain⟨v2,h2,N2,F2,φ2,e2,a1,a2,a3⟩:=(qCC (h0:=vH []) hK).2 _ F φ w cv w' ⟨v,h',N',F',φ',rfl,hv,hH',hG⟩
   subst e2
   exact⟨N2,F2,φ2,a1,a2,a3⟩
 obtain⟨N2,F2,φ2,hv2,hH2,hG2⟩:=step
 split at hq'
 ·rename_i b x ρ hr
  split at hq'
  ·rename_i hnm
   obtain⟨hb,hq'⟩:=qAx hq'
   have hq':x=M a:=hq'
   subst hq'
   unfold zLm at hnm
   simp only[Bool.and_eq_true] at hnm
   obtain⟨hsm,hky⟩:=hnm
   obtain⟨hnames,_,_,hobj⟩:=fV.lM hr hb
   have hly1:=hly (M a)
   unfold qRJ at hly1
   simp only[Bool.and_eq_true] at hly1
   obtain⟨⟨_,heq⟩,hlen⟩:=hly1
   have hlen:(kU reg kr (M a)).length≤1000:=Nat.le_of_ble_eq_true hlen
   have hll:(kU reg kr (M a)).length=(fV.bY reg kr (M a)).length:=by simp[kU]
   have hget:∀j,(vH (kU reg kr (M a))).get j=(kU reg kr (M a))[j]?:=qJo (by omega)
   have hat:∀j o,(kU reg kr (M a))[j]? = some o→(j,o)∈fV.bY reg kr (M a):=by
    intro j o hj
    have hj1:j<(fV.bY reg kr (M a)).length:=by rw[←hll];exact(List.getElem?_eq_some_iff.1 hj).1
    have h1:=qP4 heq j (by simpa using hj1)
    simp only[kU,List.getElem?_map,List.getElem?_eq_getElem hj1,Option.map_some,Option.some.injEq,Nat.zero_add] at hj h1
    have: (fV.bY reg kr (M a))[j]=(j,o):=Prod.ext h1 hj
    exact this▸List.getElem_mem hj1
   let φc:Phi:=fun m=>match dH ρ m with | some (some j)=>φ2 j | _=>none
   have hag:Agree ρ φ2 φc:=by
    intro m o hm'
    have: dH ρ m=some o:=qFc hky hm'
    show(match dH ρ m with | some (some j)=>φ2 j | _=>none)=_
    rw[this]
    cases o<;>rfl
   have hφc:∀m p,φc m=some p→∃j,(m,some j)∈ρ∧φ2 j=some p:=by
    intro m p hp
    have hp:(match dH ρ m with | some (some j)=>φ2 j | _=>none)=some p:=hp
    split at hp
    ·rename_i j hj;exact⟨j,oO hj,hp⟩
    ·cases hp
   have hnlt:∀m o,(m,o)∈ρ→m<(kU reg kr (M a)).length:=by
    intro m o hm'
    have h1:m∈ρ.map (·.1):=List.mem_map.2 ⟨_,hm',rfl⟩
    rw[hnames,←fV.eU (reg:=reg) (x:=M a)] at h1
    obtain⟨j,hj,hjm⟩:=List.mem_iff_getElem.1 h1
    have h2:=qP4 heq j hj
    rw[List.getElem?_eq_getElem hj,hjm,Nat.zero_add] at h2
    have:= Option.some.inj h2
    rw[hll];simp only[List.length_map] at hj;omega
   have hobj2:∀m j,(m,some j)∈ρ→∃u,q.2.get j=some u:=by
    intro m j hm'
    have hlt:=hnlt m _ hm'
    obtain⟨oo,h1,h2⟩:=hobj m _ (hat m _ (List.getElem?_eq_getElem hlt))
    have e1:=qFc hky hm'
    have e2:=qFc hky h1
    rw[e1] at e2
    cases Option.some.inj e2
    obtain⟨u,h3,_⟩:=h2
    exact⟨u,h3⟩
   refine⟨qJC reg kr (M a),vH (kU reg kr (M a)),fun j=>j<(kU reg kr (M a)).length,F2,φc,zCp (hly _),zCq hne hr hb hag hv2,?_,?_⟩
   ·refine⟨fun j o hj=>?_,fun j o b s k hj hp=>?_,fun j j' oj oj' b s k s' k' hj hj' hp hp'=>?_,fun j p hp=>?_,fun j o hj=>?_,fun j hj=>?_,hH2.frz,hH2.lay⟩
    ·rw[hget] at hj
     obtain⟨oo,h1,h2⟩:=hobj j o (hat j o hj)
     cases oo with
     | none =>
      obtain⟨e,rfl⟩:=h2
      exact .inl ⟨rfl,.inl ⟨rfl,hag j none h1⟩⟩
     | some j' =>
      obtain⟨u,h3,h4⟩:=h2
      exact h4 F2 w' φ2 φc hag (hag j (some j') h1) (hH2.obj j' u h3)
    ·obtain⟨j',h1,h2⟩:=hφc j _ hp
     obtain⟨u,h3⟩:=hobj2 j j' h1
     exact hH2.own j' u b s k h3 h2
    ·obtain⟨i,h1,h2⟩:=hφc j _ hp
     obtain⟨i',h1',h2'⟩:=hφc j' _ hp'
     obtain⟨u,h3⟩:=hobj2 j i h1
     obtain⟨u',h3'⟩:=hobj2 j' i' h1'
     have:= hH2.inj i i' u u' b s k s' k' h3 h3' h2 h2'
     subst this
     exact qCJ hsm h1 h1'
    ·obtain⟨j',h1,_⟩:=hφc j p hp
     exact hnlt j _ h1
    ·rw[hget] at hj
     exact(List.getElem?_eq_some_iff.1 hj).1
    ·have hj:j<(kU reg kr (M a)).length:=hj
     simp[Tr.ok];omega
   ·have hno:∀b,iC reg φc (vH (kU reg kr (M a))).get b→iC reg φ2 q.2.get b:=by
     rintro b ⟨i,o,s,k,h1,h2⟩
     obtain⟨j',h3,h4⟩:=hφc i _ h2
     obtain⟨u,h5⟩:=hobj2 i j' h3
     exact⟨j',u,s,k,h5,h4⟩
    refine⟨⟨hG2.goes.os,hG2.goes.tape,hG2.goes.output,hG2.goes.size,hG2.goes.block,hG2.goes.fsub,hG2.goes.fnew,fun i hi=>(Nat.not_lt_zero _ hi).elim,fun i hi=>(Nat.not_lt_zero _ hi).elim,fun b hb=>hG2.goes.dom b (hno b hb),fun i p hp=>?_⟩,⟨Nat.zero_le _,[],rfl,fun i _ hi=>?_⟩,fun i hi=>.inr ⟨Nat.zero_le _,hi⟩⟩
    ·obtain⟨j',_,h4⟩:=hφc i p hp
     rcases hG2.goes.new j' p h4 with h5 | h5
     ·exact(Nat.not_lt_zero _ h5).elim
     ·exact .inr h5
    ·rw[hget]
     have hi:¬(0≤i∧i<(kU reg kr (M a)).length):=hi
     rw[List.getElem?_eq_none (by omega)]
     rfl
  ·exact hq'.elim
 ·exact hq'.elim
def pK(ka:List Kd)(kr:List Ans)(pre:Cs reg ka→Bool)(M:Cs reg ka→fV reg kr)(hk:ka.all eH=true):zBS (qEb reg ka kr pre M) where
 find args g:=vM reg ka args g
 ok args g a ρ h:=by
  unfold vM at h
  split at h
  ·rename_i x hx
   cases h
   obtain⟨c1,_,_⟩:=yY hx hk
   exact⟨c1 _,rfl,fun j o hj=>by simp[qEb] at hj⟩
  ·cases h
end
end Go.W
namespace Go.W
open Go Go.RowKit
section
variable (reg:Reg)
def zCr(h:Hp reg.T)(q:V reg.T×List (Option (O reg.T))):Out (V reg.T×Hp reg.T) :=
 Out.ask (Tr.ok (Nat.add h.nx (Nat.sub q.2.length 0))) (.ret (q.1.ren (qMt 0 h.nx []),⟨uA (qMt 0 h.nx []) (at0 0 q.2) h.h,Nat.add h.nx (Nat.sub q.2.length 0),h.wr⟩))
def jS(ka:List Kd){R:Type}(e:R→V reg.T×List (Option (O reg.T)))(pre:Cs reg ka→Bool)(M:Cs reg ka→R):CJ reg.T:=fun args h _α k =>
 DT.gB (kT reg args h) fun q=>(match vM reg ka q.1 q.2.get with
  | some (a,_)=>.need (pre a) (.join (σ:=R) (.ret (.inl (M a))) fun r=>DT.gB (zCr reg q.2 (e r)) k)
  | none=>.bad)
def jB(ka kr:List Kd)(pre:Cs reg ka→Bool)(M:Cs reg ka→Cs reg kr):CJ reg.T:=fun args h _α k =>
 DT.gB (kT reg args h) fun q=>(match vM reg ka q.1 q.2.get with
  | some (a,_)=>.need (pre a) (.join (σ:=Cs reg kr) (.ret (.inl (M a))) fun r=>k (encR reg kr r,h))
  | none=>.bad)
end
section
open DT
variable {reg:Reg}
theorem zCs{ka:List Kd}{R:Type}{e:R→V reg.T×List (Option (O reg.T))}{pre:Cs reg ka→Bool}{M:Cs reg ka→R}(args:List (V reg.T))(h:Hp reg.T):iR (jS reg ka e pre M args h):=by
 refine kJ (t:=fun α k=>gB (kT reg args h) k) (kN _) fun q=>?_
 cases hf:vM reg ka q.1 q.2.get with
 | none=>simp only[];exact fB
 | some p =>
  obtain⟨a,l⟩:=p
  simp only[]
  exact qJ5 _ (qIr (yZ (M a)) fun r=>kN _)
theorem zJn{ka kr:List Kd}{pre:Cs reg ka→Bool}{M:Cs reg ka→Cs reg kr}(args:List (V reg.T))(h:Hp reg.T):iR (jB reg ka kr pre M args h):=by
 refine kJ (t:=fun α k=>gB (kT reg args h) k) (kN _) fun q=>?_
 cases hf:vM reg ka q.1 q.2.get with
 | none=>simp only[];exact fB
 | some p =>
  obtain⟨a,l⟩:=p
  simp only[]
  exact qJ5 _ (qIr (yZ (M a)) fun r=>iT _)
theorem zI5{α σ:Type}{s:σ}{k:σ→DT α}{x:α}(h:(DT.join (.ret (.inl s)) k).G x):(k s).G x:=by
 obtain⟨y,h1,h2⟩:=DT.lK.1 h
 have h1:Sum.inl s=y:=h1
 subst h1
 exact h2
theorem qZS{ka:List Kd}{args:List (V reg.T)}{g:Nat→Option (O reg.T)}{a:Cs reg ka}{l:List Nat}(h:vM reg ka args g=some (a,l)):l=[]:=by
 unfold vM at h
 split at h
 ·cases h;rfl
 ·cases h
theorem zMy{ka kr:List Kd}{pre:Cs reg ka→Bool}{M:Cs reg ka→Cs reg kr}{args:List (V reg.T)}{h:Hp reg.T}{α:Type}{k:V reg.T×Hp reg.T→DT α}{x:α}(hq:(jB reg ka kr pre M args h α k).G x):(fM reg ka kr pre M args h).K fun r=>(k r).G x:=by
 unfold fM
 rw[Out.dP]
 refine Out.fK (jT.1 hq) fun q hq=>?_
 cases hf:vM reg ka q.1 q.2.get with
 | none=>simp only[hf] at hq;exact hq.elim
 | some p =>
  obtain⟨a,l⟩:=p
  simp only[hf] at hq ⊢
  obtain⟨h1,h2⟩:=(bE _ _).1 hq
  exact Out.cB.2 ⟨h1,zI5 (k:=fun r=>k (encR reg kr r,h)) h2⟩
theorem zLn{S:Spec reg.T}{Me:zBS S}{ka:List Kd}{R:Type}{e:R→V reg.T×List (Option (O reg.T))}{M:Cs reg ka→R}(_hα:S.α=Cs reg ka){pre:Cs reg ka→Bool}
  (hS:∀args h Q,(∃a,vM reg ka args h.get=some (a,[])∧pre a=true∧(zCr reg h (e (M a))).K Q)→(S.con Me args h).K Q) {args:List (V reg.T)} {h:Hp reg.T} {α:Type} {k:V reg.T×Hp reg.T→DT α} {x:α} (hq:(jS reg ka e pre M args h α k).G x):((kT reg args h).bind fun q=>S.con Me q.1 q.2).K fun r=>(k r).G x:=by
 rw[Out.dP]
 refine Out.fK (jT.1 hq) fun q hq=>?_
 cases hf:vM reg ka q.1 q.2.get with
 | none=>simp only[hf] at hq;exact hq.elim
 | some p =>
  obtain⟨a,l⟩:=p
  have:= qZS hf
  subst this
  simp only[hf] at hq
  obtain⟨h1,h2⟩:=(bE _ _).1 hq
  exact hS _ _ _ ⟨a,hf,h1,jT.1 (zI5 h2)⟩
theorem qXz{h:Hp reg.T}{q:V reg.T×List (Option (O reg.T))}{Q:V reg.T×Hp reg.T→Prop}(hK:(zCr reg h q).K Q):(Out.ask (iZ ([]:List Nat)&&([]:List Nat).all Tr.ok&&Nat.ble ([]:List Nat).length q.2.length&&Tr.ok (Nat.add h.nx (Nat.sub q.2.length ([]:List Nat).length)))
  (.ret (q.1.ren (qMt ([]:List Nat).length h.nx []),⟨uA (qMt ([]:List Nat).length h.nx []) (at0 0 q.2) h.h,Nat.add h.nx (Nat.sub q.2.length ([]:List Nat).length),[]++h.wr⟩):Out (V reg.T×Hp reg.T))).K Q:=by
 obtain⟨h1,h2⟩:=Out.dZ.1 hK
 refine Out.dZ.2 ⟨?_,h2⟩
 simp only[iZ,List.all_nil,Bool.and_self,Bool.true_and,Bool.and_eq_true]
 exact⟨Nat.ble_eq_true_of_le (Nat.zero_le _),h1⟩
theorem zMz{ka kr:List Kd}{pre:Cs reg ka→Bool}{M:Cs reg ka→Cs reg kr}(hk:ka.all eH=true){args:List (V reg.T)}{h:Hp reg.T}{α:Type}{k:V reg.T×Hp reg.T→DT α}{x:α}(hq:(jS reg ka (fun r=>(encR reg kr r,[])) pre M args h α k).G x) :
  ((kT reg args h).bind fun q=>(qB4 reg ka kr pre M).con (qEZ ka kr pre M hk) q.1 q.2).K fun r=>(k r).G x:=by
 refine zLn (S:=qB4 reg ka kr pre M) (Me:=qEZ ka kr pre M hk) rfl (fun args h Q ⟨a,h1,h2,h3⟩=>?_) hq
 unfold Spec.con
 have h1:(qEZ ka kr pre M hk).find args h.get=some (a,[]):=h1
 rw[h1]
 refine Out.cB.2 ⟨h2,?_⟩
 rw[Out.dP]
 exact qXz h3
theorem zM0{ka:List Kd}{kr:List Ans}{pre:Cs reg ka→Bool}{M:Cs reg ka→fV reg kr}(hk:ka.all eH=true){args:List (V reg.T)}{h:Hp reg.T}{α:Type}{k:V reg.T×Hp reg.T→DT α}{x:α}(hq:(jS reg ka (fun r=>(qJC reg kr r,(kU reg kr r).map some)) pre M args h α k).G x) :
  ((kT reg args h).bind fun q=>(qEb reg ka kr pre M).con (pK ka kr pre M hk) q.1 q.2).K fun r=>(k r).G x:=by
 refine zLn (S:=qEb reg ka kr pre M) (Me:=pK ka kr pre M hk) rfl (fun args h Q ⟨a,h1,h2,h3⟩=>?_) hq
 unfold Spec.con
 have h1:(pK ka kr pre M hk).find args h.get=some (a,[]):=h1
 rw[h1]
 refine Out.cB.2 ⟨h2,?_⟩
 rw[Out.dP]
 exact qXz h3
end
end Go.W
namespace Go.W
open Go Go.RowKit
section
variable (reg:Reg) (P:Program)
def zCt(nt:Nat)(ops:Array Oper)(draw:Bool)(st:St reg.T):Option (Nat×Nat×V reg.T×Nat):=match draw,ops.toList with
 | false,[o0,o1]=>(match o0.op,o0.dst,o0.guard,o1.op,o1.dst,o1.guard with
  | .move (.tmp s),some d0,none,.binOp .eql t (.tmp e0) y _,some d1,none=>(match Nat.beq d0 e0&&qOV y&&mY nt (some d0)&&mY nt (some d1),sliceT P t,st.env.get s with
   | true,some _,some (.d (.sl e xs))=>some (d0,d1,.d (.sl e xs),xs.length)
   | _,_,_=>none)
  | _,_,_,_,_,_=>none)
 | _,_=>none
def exB(nt:Nat)(ex:ExR reg.T):ExR reg.T:=fun ops draw st α k=>match zCt reg P nt ops draw st with
 | some (d0,d1,v,n)=>.br (Nat.beq n 0) (.both (k ((st.put (some d0) v).put (some d1) (.d (.bool true)))) (k ((st.put (some d0) v).put (some d1) (.d (.bool false))))) (k ((st.put (some d0) v).put (some d1) (.d (.bool false))))
 | none=>ex ops draw st α k
end
section
variable {reg:Reg} {P:Program} {nt:Nat}
theorem zJo(hnt:nt≤1000000){ex:ExR reg.T}(hex:qEY P nt ex):qEY P nt (exB reg P nt ex):=by
 intro id ops draw st α k x h n0 F0 φ0 H0 w0 a w hR
 unfold exB at h
 split at h
 ·rename_i d0 d1 v n hn
  unfold zCt at hn
  split at hn
  ·rename_i o0 o1 hops
   split at hn
   ·rename_i s d0' t e0 y yt d1' hop0 hd0 hg0 hop1 hd1 hg1
    split at hn
    ·rename_i e' e xs hc ht hv
     simp only[Option.some.injEq,Prod.mk.injEq] at hn
     obtain⟨rfl,rfl,rfl,rfl⟩:=hn
     simp only[Bool.and_eq_true] at hc
     obtain⟨⟨⟨hde,hny⟩,hk0⟩,hk1⟩:=hc
     have hde:=Nat.eq_of_beq_eq_true hde
     subst hde
     have hops:ops = #[o0,o1]:=by
      apply Array.toList_inj.1;rw[hops]
     subst hops
     obtain⟨N,F,φ,hN,hR,hG⟩:=hR
     have hvs:aK reg F w φ (.d (.sl e xs)) (a.eval (.tmp s)):=uM hR (x:=.tmp s) hv
     refine(wpIn_wide (n:=0)).1 (wpIn_region (F:=Fr none) ?_)
     have hran:List.range (#[o0,o1]:Array Oper).size=[0,1]:=rfl
     rw[hran,wpOpsIn_cons]
     unfold wpOpIn
     have h00:(#[o0,o1]:Array Oper)[0]? = some o0:=rfl
     have h01:(#[o0,o1]:Array Oper)[1]? = some o1:=rfl
     simp only[h00]
     rw[if_pos (qJ hR (show eQ #[o0,o1] o0 st.env.get=some true by unfold eQ;rw[hg0]))]
     refine Oper.qIX (fun c hc=>by rw[hop0] at hc;cases hc) (dM (Q:=fun r=>r=(.d (.sl e xs),st.hp)) (s:=pure (a.eval (.tmp s))) ⟨_,w,rfl,.pure hR.heap rfl hvs⟩ (by unfold execOp;rw[hop0];rfl) fun cv w1 hres=>?_)
     obtain⟨v1,h1,N1,F1,φ1,hq1,hv1,hH1,hG1⟩:=hres
     cases hq1
     have hR1:RF [] N1 F1 φ1 nt ⟨(st.put (some d0') (.d (.sl e xs))).env.get,(st.put (some d0') (.d (.sl e xs))).hp.get⟩ (a.put o0.dst cv) w1:=by
      have:= hR.put hH1 hG1.goes hk0 hv1
      rw[nY,show(st.put (some d0') (.d (.sl e xs)))=St.put ⟨st.env,st.hp⟩ (some d0') (.d (.sl e xs)) from rfl,yQ hnt hk0,hd0]
      exact this
     rw[wpOpsIn_cons]
     unfold wpOpIn
     simp only[h01]
     rw[if_pos (qJ hR1 (show eQ #[o0,o1] o1 (st.put (some d0') (.d (.sl e xs))).env.get=some true by unfold eQ;rw[hg1]))]
     have hu:P.underlying t=some (.slice e'):=by
      unfold sliceT at ht
      split at ht
      ·rename_i e2 hu;cases ht;exact hu
      ·cases ht
     have hok0:Tr.ok d0' = true:=by
      have hlt:d0' + 1≤nt:=Nat.le_of_ble_eq_true hk0
      exact Nat.ble_eq_true_of_le (show d0' + 1≤9223372036854775807 from Nat.le_trans hlt (Nat.le_trans hnt (by decide)))
     have hv2:aK reg F1 w1 φ1 (.d (.sl e xs)) ((a.put o0.dst cv).eval (.tmp d0')):=uM hR1 (x:=.tmp d0') (by
      show(st.env.set d0' (some (.d (.sl e xs)))).get d0' = _
      rw[Tr.iN hok0,if_pos rfl])
     have hey:(a.put o0.dst cv).eval y=.slice none 0 0:=by
      unfold qOV at hny
      split at hny
      ·rfl
      ·cases hny
     obtain⟨base,n,c,hcx,hbn⟩:∃(base:Option Addr) (n c:Nat),(a.put o0.dst cv).eval (.tmp d0')=.slice base n c∧(base.isNone=true→xs.length=0):=by
      generalize (a.put o0.dst cv).eval (.tmp d0')=cx at hv2
      cases hv2 with
      | d _ _ hd =>
       cases hd with
       | emp _ _ hl base cap=>exact⟨base,0,cap,rfl,fun _=>Option.some.inj hl⟩
       | sl _ n a cap=>exact⟨some a,n,cap,rfl,fun h=>by cases h⟩
     refine Oper.qIX (fun c hc=>by rw[hop1] at hc;cases hc) (dM (Q:=fun r=>r=(.d (.bool base.isNone),st.hp)) (s:=do eqGuard .eql t (.tmp d0') y ((a.put o0.dst cv).eval (.tmp d0')) ((a.put o0.dst cv).eval y);binOp .eql t ((a.put o0.dst cv).eval (.tmp d0')) ((a.put o0.dst cv).eval y))
      (by rw[hcx,hey];exact qPn hH1 ⟨.bool base.isNone,.bool base.isNone,rfl,fun _ _=>.bool _,fun w=>by simp only[Sem.run_bind,oL (u:=.slice base n c) rfl,Result.andThen_ok];exact Lib.run_eql_slice_nil w t e' base n c 0 0 hu⟩) (by unfold execOp;rw[hop1]) fun cv2 w2 hres=>?_)
     obtain⟨v2,h2,N2,F2,φ2,hq2,hv2',hH2,hG2⟩:=hres
     cases hq2
     have hR2:RF [] N2 F2 φ2 nt ⟨((st.put (some d0') (.d (.sl e xs))).put (some d1') (.d (.bool base.isNone))).env.get,((st.put (some d0') (.d (.sl e xs))).put (some d1') (.d (.bool base.isNone))).hp.get⟩ ((a.put o0.dst cv).put o1.dst cv2) w2:=by
      have:= hR1.put hH2 hG2.goes hk1 hv2'
      rw[nY,show((st.put (some d0') (.d (.sl e xs))).put (some d1') (.d (.bool base.isNone)))=St.put ⟨(st.put (some d0') (.d (.sl e xs))).env,st.hp⟩ (some d1') (.d (.bool base.isNone)) from rfl,yQ hnt hk1,hd1]
      exact this
     show zI3 n0 F0 φ0 H0 w0 nt _ st k x .normal _ _
     refine⟨(st.put (some d0') (.d (.sl e xs))).put (some d1') (.d (.bool base.isNone)),?_,?_,?_,?_⟩
     ·have hh:=zCg.1 h
      cases hl:Nat.beq xs.length 0 with
      | true =>
       cases hb:base.isNone with
       | true=>exact(hh.1 hl).1
       | false=>exact(hh.1 hl).2
      | false =>
       cases hb:base.isNone with
       | true=>rw[hbn hb] at hl;cases hl
       | false=>exact hh.2 hl
     ·have k1:cO ([o0,o1].filterMap (·.dst)) st (st.put (some d0') (.d (.sl e xs))):=by rw[←hd0];exact yV (o:=o0) (l:=[o1]) hnt (by rw[hd0];exact hk0) st _
      have k2:cO ([o1].filterMap (·.dst)) (st.put (some d0') (.d (.sl e xs))) ((st.put (some d0') (.d (.sl e xs))).put (some d1') (.d (.bool base.isNone))):=by rw[←hd1];exact yV (o:=o1) (l:=[]) hnt (by rw[hd1];exact hk1) _ _
      exact k1.trans (yX k2)
     ·exact Grow.refl _
     ·have hg:GO N F φ st.hp w N2 F2 φ2 st.hp w2:=hG1.trans hG2
      exact RA.go (st':=(st.put (some d0') (.d (.sl e xs))).put (some d1') (.d (.bool base.isNone))) hN hG hR2 hg
    ·cases hn
   ·cases hn
  ·cases hn
 ·exact hex _ _ _ _ _ _ _ h hR
end
end Go.W
namespace Go.W
open Go Go.RowKit Go.ChangeShapes Go.WideShapes Go.ChangeAt
section
variable {reg:Reg} {P:Program}
theorem qUW{H:Type}{enc:TypeId×Value→H}{C:Checked}{os:Os}{f:FuncId}{fn:Func}{s:ChangeSpec}{bt:TypeId}{X:World→Array Value→Prop}(hX:∀(w w':World) (args:Array Value),w.heap=w'.heap→X w args→X w' args)(own:ownKnob C.prog.godebug=none)(started:os.Started)
  (hl:laidOutB C.prog=true) (noInit:C.prog.inits.idxOf? f=none) (hfn:C.prog.funcs[f]? = some fn) (hread:∀t∈fn.params.toList,C.prog.readableRec t=true∧t<C.prog.types.size)
  (hres:fn.resultTypes = #[bt]) (hbt:C.prog.underlying bt=some .bool) (hvars:s.vars=[])
  (hs:∀ds:List (DataW H),ds.length=fn.params.size→s.fn H (ds++[]) = { results:=[.lit (.bool true)],args:=ds })
  (witness:∃(w:World) (tape:Tape) (i:Input),w.os=os∧(w.forCall tape i).Shaped C.prog∧i.vars=[]∧Input.okWide C.prog (w.forCall tape i) .any w.heap.size f i ∧
   ((s.pre enc C.prog fn [] false (w.forCall tape i).memory i.args∧X (w.forCall tape i).memory i.args)∧sizedMet enc C.prog fn (OpenSpec.ofChange s) false (w.forCall tape i).memory i.args)∧({}:Assume).holds C.prog (lone (Frame.enter C.prog f i.args .normal) [] (w.forCall tape i)))
  (n:Nat) (hchk:∀t∈fn.params.toList,qJk reg C.prog n t=true) (htot:∀n e vs,reg.k e=C.prog.cellsOf e→C.prog.cellsOf e≠0→WT reg C.prog n e vs→∃x,reg.enc e x=vs)
  (hTab:∀w args,X w args→reg.Tab w) (h:∀vs,qGl reg C.prog n fn.params.toList vs→∃(S:Spec reg.T) (a:S.α),xX C.prog f S∧S.pre a=true∧S.args a=vs∧S.bY a=[]∧S.out a=.ret (.d (.bool true),[])) :
  ReturnsInHanded {} C os f .any (fun w args=>(s.pre enc C.prog fn [] false w args∧X w args)∧sizedMet enc C.prog fn (OpenSpec.ofChange s) false w args) (s.post enc C.prog fn false true false false):=by
 refine qJp hX own started hl noInit hfn hread hres hbt hvars hs witness ?_
 intro W base args ds ps hok _ hA _ hx
 obtain⟨vs,h1,h2,h4⟩:=zBP (reg:=reg) (P:=C.prog) (F:=fun b=>b<W.heap.size) (φ:=fun _=>none) (fun b hb=>hb) htot hchk
  (fun j t v ht hv=>hok j t v (by simpa using ht) (by simpa using hv)) hA
 obtain⟨S,a,hS,hp,ha,ho,hout⟩:=h vs h1
 have hH:qG reg (fun b=>b<W.heap.size) (fun _=>none) (fun j=>j<(S.bY a).length) (vH (S.bY a)).get W:=by
  rw[ho]
  have he:∀j,(vH ([]:List (O reg.T))).get j=none:=fun j=>rfl
  refine⟨fun i o hi=>?_,fun i o b s k hi=>?_,fun i j oi oj b s k s' k' hi=>?_,fun i p hp=>?_,fun i o hi=>?_,fun i hi=>(Nat.not_lt_zero _ hi).elim,fun b hb=>hb,⟨W,hTab W args hx,fun b hb=>⟨hb,rfl⟩⟩⟩
  ·rw[he] at hi;cases hi
  ·rw[he] at hi;cases hi
  ·rw[he] at hi;cases hi
  ·cases hp
  ·rw[he] at hi;cases hi
 refine(hS.2 a hp (fun b=>b<W.heap.size) (fun _=>none) W args hH (by rw[ha];exact⟨by simpa using h2,fun j hj=>by rw[←lF];exact h4 j hj⟩) _ (by rw[hout];rfl)).mono fun e W' he=>?_
 obtain⟨cv,rfl,v1,h1',N1,F1,φ1,hcov,hv,_,hG⟩:=he
 have hG:=hG.goes
 have own0:∀b,¬iC reg (fun _=>none) (vH (S.bY a)).get b:=fun b ⟨i,o,s,k,_,hi⟩=>by cases hi
 have hcv:=(sD hv ((bE _ _).1 hcov).2.1).1
 refine⟨?_,⟨hG.os,hG.tape,hG.output,hG.size,fun b hb=>hG.block b hb (own0 b)⟩⟩
 cases hcv with
 | d _ _ hd =>
  cases hd with
  | bool=>rfl
  | emp _ hx=>cases hx
  | sl _ _ _ _ _ _ _ hx=>cases hx
end
end Go.W
