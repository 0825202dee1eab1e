/- Part of the proof: texts DZ DR DS. No conditions. -/
import Derived.Test.YtclpnndkhbnaoaaGreatDoorVh
set_option linter.all false
namespace Go.W
open Go Go.RowKit
section
variable (reg:Reg) (P:Program)
def qAx{α:Type}(ex:Nat→ExR reg.T)(fuel:Nat)(L J:Nat→St reg.T→Option (List Ld))(fn:Func)(args:List (V reg.T))(h:Hp reg.T)(k:V reg.T×Hp reg.T→DT α):DT α :=
 match fn.body with
 | none=>.bad
 | some c=>(match Nat.ble args.length fn.ntmps&&Nat.ble fn.ntmps 1000000 with
  | true=>trS vS (dP args 0 .e) fun env=>gD reg (ex fn.ntmps) fuel h.nx L J c (fun r=>DT.bI ((iW P fn r).bind fun q=>fZ reg ⟨h.h,h.nx,[]⟩ (q.1,⟨q.2.h,q.2.nx,List.range h.nx⟩)) k) ⟨env,h⟩
  | false=>.bad)
def qAy{α:Type}(ex:Nat→ExR reg.T)(fuel:Nat)(L J:Nat→St reg.T→Option (List Ld))(fn:Func)(args:List (V reg.T))(h:Hp reg.T)(k:V reg.T×Hp reg.T→DT α):DT α :=
 match fn.body with
 | none=>.bad
 | some c=>(match Nat.ble args.length fn.ntmps&&Nat.ble fn.ntmps 1000000 with
  | true=>trS vS (dP args 0 .e) fun env=>gD reg (ex fn.ntmps) fuel h.nx L J c (fun r=>DT.bI (iW P fn r) k) ⟨env,h⟩
  | false=>.bad)
end
section
variable {reg:Reg} {P:Program} {hd:Hd reg.T}
theorem qCc{ex:Nat→ExR reg.T}(hex:∀nt,nt≤1000000→rU P nt (ex nt)){fuel:Nat}{L J:Nat→St reg.T→Option (List Ld)}{f:FuncId}{fn:Func}(hfn:P.funcs[f]? = some fn){args:List (V reg.T)}{h:Hp reg.T}(hwr:h.wr=[]){α:Type}{k:V reg.T×Hp reg.T→DT α}{x:α}
  (hq:(qAx reg P ex fuel L J fn args h k).G x) {F:Nat→Prop} {φ:Phi} {w:World} {cargs:Array Value} (hH:HR (fun i=>i<h.nx) F φ h w) (hl:eF F w φ args cargs) :
  Calls P f cargs w (bY (fun i=>i<h.nx) F φ h w fun r=>(k r).G x):=by
 unfold qAx at hq
 split at hq
 ·exact hq.elim
 rename_i c hb
 split at hq
 ·rename_i hc
  rw[iD wU] at hq
  simp only[bu] at hc
  have hle:args.length≤fn.ntmps:=by simpa using hc.1
  have hnt:fn.ntmps≤1000000:=bz hc.2
  have hR0:=nT (nt:=fn.ntmps) hH hl hle hnt
  have hh:(⟨h.h,h.nx,[]⟩:Hp reg.T)=h:=by cases h;simp only at hwr;rw[hwr]
  rw[hh] at hq
  refine calls_of_wp hfn hb (wp_mono (jI (n0:=h.nx) (F0:=F) (φ0:=φ) (H0:=h.get) (w0:=w) (hex _ hnt) c _ _ x hq ⟨_,F,φ,fun i hi=>hi,hR0,Goes.refl reg hH⟩) fun e a' w' he=>?_)
  have hfin:∀(r:aH×St reg.T) (Q:V reg.T×Hp reg.T→Prop),(iW P fn r).K Q→∃v,qBU P fn r.2=some v∧Q (v,r.2.hp)∧∀id,r.1≠.exit id:=by
   intro r Q hr
   obtain⟨e,st⟩:=r
   cases e with
   | normal=>obtain⟨v,h1,h2⟩:=eD hr;exact⟨v,h1,h2,fun id=>by simp⟩
   | ret=>obtain⟨v,h1,h2⟩:=eD hr;exact⟨v,h1,h2,fun id=>by simp⟩
   | exit id=>exact hr.elim
  have fin:∀(e':aH) st,(iW P fn (e',st)).K (fun q=>(fZ reg h (q.1,⟨q.2.h,q.2.nx,List.range h.nx⟩)).K fun r=>(k r).G x)→RA h.nx F φ h.get w fn.ntmps st a' w'→a'.defers=[]∧∃cv,(results fn a'.tmps).run P w' = .ok cv w'∧bY (fun i=>i<h.nx) F φ h w (fun r=>(k r).G x) (.returned cv) w':=by
   rintro e' st hk ⟨N,F',φ',hN,hR,hG⟩
   obtain⟨v,h4,h5,_⟩:=hfin _ _ hk
   obtain⟨cv,h6,h7⟩:=jE hR h4
   obtain⟨r,h8,h9⟩:=(Out.bP _ _).1 h5
   have hnx:h.nx≤st.hp.nx:=by
    rcases lg h.nx with h0 | h0
    ·omega
    ·have:= hN (h.nx-1) (hG.names _ (show h.nx-1<h.nx by omega));omega
   have hres:Res (fun i=>i<h.nx) F φ h w (·= (v,⟨st.hp.h,st.hp.nx,List.range h.nx⟩)) cv w':=by
    refine⟨v,⟨st.hp.h,st.hp.nx,List.range h.nx⟩,N,F',φ',rfl,h7,hR.heap,⟨hG,⟨hnx,List.range h.nx,by rw[hwr,jy],fun i hi1 hi2=>?_⟩,fun i hi=>?_⟩⟩
    ·simp only[List.mem_range,Nat.not_lt] at hi1
     have h1:∀(H:Nat→Option (O reg.T)) (N:Nat→Prop) (F:Nat→Prop) (φ:Phi) (w:World) (n:Nat),iX reg F φ N H w→(∀i,N i→i<n)→n≤i→H i=none:=by
      intro H N F φ w n hH hN hi
      cases hHi:H i with
      | none=>rfl
      | some o=>have:= hN i (hH.lt i o hHi);omega
     have hi2:st.hp.nx≤i:=by
      have hi2:¬(h.nx≤i∧i<st.hp.nx):=hi2
      omega
     have e1:=h1 h.get _ F φ w h.nx hH (fun i hi=>hi) hi1
     have e2:st.hp.get i=none:=h1 st.hp.get N F' φ' w' st.hp.nx hR.heap hN hi2
     rw[e1];exact e2
    ·by_cases h1:i<h.nx
     ·exact .inl h1
     ·exact .inr ⟨by omega,hN i hi⟩
   obtain⟨v2,h2',N2,F2,φ2,e2,a,b,c⟩:=(rF h8).2 _ F φ w cv w' hres
   exact⟨hR.dfs,cv,h6,cv,rfl,v2,h2',N2,F2,φ2,e2▸h9,a,b,c⟩
  have split:∀(e':aH) st,(DT.bI ((iW P fn (e',st)).bind fun q=>fZ reg h (q.1,⟨q.2.h,q.2.nx,List.range h.nx⟩)) k).G x→(iW P fn (e',st)).K (fun q=>(fZ reg h (q.1,⟨q.2.h,q.2.nx,List.range h.nx⟩)).K fun r=>(k r).G x):=by
   intro e' st hk
   have:= DT.dH hk
   rw[Out.aU] at this
   exact this
  cases e with
  | normal=>obtain⟨st,hq,_,_,hR⟩:=he;exact fin _ st (split _ _ hq) hR
  | ret=>obtain⟨st,hq,_,_,hR⟩:=he;exact fin _ st (split _ _ hq) hR
  | exit id =>
   obtain⟨st,hq,_,_,hR⟩:=he
   obtain⟨_,_,_,h6⟩:=hfin _ _ (split _ _ hq)
   exact(h6 id rfl).elim
  | goto l=>exact he.elim
  | panic ch=>exact he.elim
  | outgrown=>exact he.elim
 ·exact hq.elim
theorem qCd{ex:Nat→ExR reg.T}(hex:∀nt,nt≤1000000→rU P nt (ex nt)){fuel:Nat}{L J:Nat→St reg.T→Option (List Ld)}{f:FuncId}{fn:Func}(hfn:P.funcs[f]? = some fn){args:List (V reg.T)}{h:Hp reg.T}{α:Type}{k:V reg.T×Hp reg.T→DT α}{x:α}
  (hq:(qAy reg P ex fuel L J fn args h k).G x) {F:Nat→Prop} {φ:Phi} {w:World} {cargs:Array Value} (hH:HR (fun i=>i<h.nx) F φ h w) (hl:eF F w φ args cargs) :
  Calls P f cargs w (bY (fun i=>i<h.nx) F φ h w fun r=>(k r).G x):=by
 unfold qAy at hq
 split at hq
 ·exact hq.elim
 rename_i c hb
 split at hq
 ·rename_i hc
  rw[iD wU] at hq
  simp only[bu] at hc
  have hle:args.length≤fn.ntmps:=by simpa using hc.1
  have hnt:fn.ntmps≤1000000:=bz hc.2
  refine calls_of_wp hfn hb (wp_mono (jI (n0:=h.nx) (F0:=F) (φ0:=φ) (H0:=h.get) (w0:=w) (hex _ hnt) c _ _ x hq ⟨_,F,φ,fun i hi=>hi,nT hH hl hle hnt,Goes.refl reg hH⟩) fun e a' w' he=>?_)
  have hfin:∀(r:aH×St reg.T) (Q:V reg.T×Hp reg.T→Prop),(iW P fn r).K Q→∃v,qBU P fn r.2=some v∧Q (v,r.2.hp)∧∀id,r.1≠.exit id:=by
   intro r Q hr
   obtain⟨e,st⟩:=r
   cases e with
   | normal=>obtain⟨v,h1,h2⟩:=eD hr;exact⟨v,h1,h2,fun id=>by simp⟩
   | ret=>obtain⟨v,h1,h2⟩:=eD hr;exact⟨v,h1,h2,fun id=>by simp⟩
   | exit id=>exact hr.elim
  have fin:∀(e':aH),iL h.nx F φ h.get w fn.ntmps (defs c) ⟨dP args 0 .e,h⟩ (fun q=>DT.bI (iW P fn q) k) x e' a' w'→a'.defers=[]∧∃cv,(results fn a'.tmps).run P w' = .ok cv w'∧bY (fun i=>i<h.nx) F φ h w (fun r=>(k r).G x) (.returned cv) w':=by
   rintro e' ⟨st,hk,_,hgr,N,F',φ',hN,hR,hG⟩
   obtain⟨v,h4,h5,_⟩:=hfin _ _ (DT.dH hk)
   obtain⟨cv,h6,h7⟩:=jE hR h4
   have hgr:Grow h st.hp:=hgr
   refine⟨hR.dfs,cv,h6,cv,rfl,v,st.hp,N,F',φ',h5,h7,hR.heap,⟨hG,hgr,fun i hi=>?_⟩⟩
   by_cases h1:i<h.nx
   ·exact .inl h1
   ·exact .inr ⟨by omega,hN i hi⟩
  cases e with
  | normal=>exact fin _ he
  | ret=>exact fin _ he
  | exit id =>
   obtain⟨st,hk,_⟩:=he
   obtain⟨_,_,_,h6⟩:=hfin _ _ (DT.dH hk)
   exact(h6 id rfl).elim
  | goto l=>exact he.elim
  | panic ch=>exact he.elim
  | outgrown=>exact he.elim
 ·exact hq.elim
theorem qGb{ex:Nat→ExR reg.T}(hex:∀nt,nt≤1000000→rU P nt (ex nt)){fuel:Nat}{L J:Nat→St reg.T→Option (List Ld)}{f:FuncId}{fn:Func}(hfn:P.funcs[f]? = some fn)(ht:There P f){ka kr:List Kd}(hkr:kr.all bK=true){pre:Cs reg ka→Bool}{M:Cs reg ka→Cs reg kr}
  (h:∀a,pre a=true→(qAx reg P ex fuel L J fn (uI reg ka a) ⟨.e,0,[]⟩ (qIF reg kr)).G (M a)):pX P f (uR reg ka kr pre M):=by
 refine⟨ht,fun a hp F φ w cargs hH hl q hq=>?_⟩
 have hq:(encR reg kr (M a),([]:List (Option (O reg.T))))=q:=hq
 subst hq
 refine(qCc hex hfn (h:=lJ []) rfl (h a hp) hH hl).mono fun e w' he=>?_
 obtain⟨cv,he,v,h',N',F',φ',hq',hv,hH',hG⟩:=he
 refine⟨cv,he,v,h',N',F',φ',?_,hv,hH',hG⟩
 unfold qIF at hq'
 split at hq'
 ·rename_i b x hx
  obtain⟨_,hq'⟩:=kN hq'
  have hq':x=M a:=hq'
  subst hq'
  exact qBr hx hkr
 ·exact hq'.elim
end
inductive Ans where
 | one (k:Kd)
 | st (ks:List Kd)
 | ptr (j:Nat) (ks:List Kd)
section
variable (reg:Reg)
def Ans.T:Ans→Type
 | .one k=>k.T reg
 | .st ks=>Cs reg ks
 | .ptr _ ks=>Cs reg ks
def Ans.names:Ans→List Nat
 | .one k=>k.names
 | .st ks=>ks.flatMap Kd.names
 | .ptr j ks=>j::ks.flatMap Kd.names
def Ans.enc:(r:Ans)→r.T reg→V reg.T
 | .one k,x=>qBg reg k x
 | .st ks,x=>.agg (Cs.enc reg ks x)
 | .ptr j _,_=>.ptr j 0 0
def Ans.aL:(r:Ans)→r.T reg→List (Nat×O reg.T)
 | .one k,x=>k.aL reg x
 | .st ks,x=>Cs.aL reg ks x
 | .ptr j ks,x=>(j,.rows (Cs.enc reg ks x).length [Cs.enc reg ks x])::Cs.aL reg ks x
def qAi(v:V reg.T)(g:Nat→Option (O reg.T)):Option (Nat×List (V reg.T)):=match v with
 | .ptr i r o=>(match Nat.beq r 0&&Nat.beq o 0 with
  | true=>(match g i with
   | some (.rows _ [cs])=>some (i,cs)
   | _=>none)
  | false=>none)
 | _=>none
theorem qEC{v:V reg.T}{g:Nat→Option (O reg.T)}{i:Nat}{cs:List (V reg.T)}(h:qAi reg v g=some (i,cs)):v=.ptr i 0 0∧∃k,g i=some (.rows k [cs]):=by
 unfold qAi at h
 split at h
 ·rename_i i' r o
  split at h
  ·rename_i hb
   simp only[bu] at hb
   have h1:=cz hb.1
   have h2:=cz hb.2
   subst h1 h2
   split at h
   ·rename_i k cs' hg
    cases h
    exact⟨rfl,k,hg⟩
   ·cases h
  ·cases h
 ·cases h
def Ans.read:(r:Ans)→V reg.T→(Nat→Option (O reg.T))→Option (Ob×r.T reg×Rho)
 | .one k,v,g=>(match lL reg k v g with | some (b,x,o)=>some (b,x,fM k o []) | none=>none)
 | .st ks,v,g=>(match v with | .agg cs=>jG reg ks cs g | _=>none)
 | .ptr j ks,v,g=>(match qAi reg v g with
  | some (i,cs)=>(match jG reg ks cs g with | some (b,x,l)=>some (b,x,(j,some i)::l) | none=>none)
  | none=>none)
def Ans.frz(r:Ans)(v:V reg.T)(l:List Nat):List Nat:=match r,v with
 | .one k,v=>(match qJU k with | true=>l | false=>qC [v] l)
 | .st ks,.agg cs=>qC (yT reg ks cs) l
 | _,_=>l
def aJ:List Ans→Type
 | []=>Unit
 | r::rs=>r.T reg×aJ rs
def aJ.enc:(rs:List Ans)→aJ reg rs→List (V reg.T)
 | [],_=>[]
 | r::rs,x=>r.enc reg x.1::aJ.enc rs x.2
def aJ.aL:(rs:List Ans)→aJ reg rs→List (Nat×O reg.T)
 | [],_=>[]
 | r::rs,x=>r.aL reg x.1++aJ.aL rs x.2
def aJ.read:(rs:List Ans)→List (V reg.T)→(Nat→Option (O reg.T))→Option (Ob×aJ reg rs×Rho)
 | [],vs,_=>(match vs with | []=>some (none,(),[]) | _=>none)
 | r::rs,vs,g=>(match vs with
  | v::vs=>(match r.read reg v g,aJ.read rs vs g with
   | some (b,x,ρ),some (b',y,ρ')=>some (qFR b b',(x,y),ρ++ρ')
   | _,_=>none)
  | []=>none)
def aJ.frz:List Ans→List (V reg.T)→List Nat→List Nat
 | r::rs,v::vs,l=>aJ.frz rs vs (r.frz reg v l)
 | _,_,l=>l
def qKk{T:Nat→Type}(rs:List Ans)(v:V T):List (V T):=match rs with
 | [_]=>[v]
 | _=>(match v with | .tup vs=>vs | _=>[])
def qBy(rs:List Ans)(x:aJ reg rs):V reg.T:=match rs,x with
 | [r],x=>r.enc reg x.1
 | rs,x=>.tup (aJ.enc reg rs x)
def qQK(rs:List Ans)(ρ:Rho):Bool:=bE (cZ ρ)&&bE (ρ.map (·.1))
def qOV(rs:List Ans)(q:V reg.T×Hp reg.T):DT (aJ reg rs) :=
 DT.bI (match aJ.frz reg rs (qKk rs q.1) [] with
  | []=>.ret q
  | i::l=>rE reg (List.range q.2.nx) (qHe q.2.get (i::l)) q) fun q=>(match aJ.read reg rs (qKk rs q.1) q.2.get with
   | some (b,x,ρ)=>(match qQK rs ρ with | true=>wW b (.ret x) | false=>.bad)
   | none=>.bad)
def fP(rs:List Ans)(x:aJ reg rs):List (O reg.T):=(aJ.aL reg rs x).map (·.2)
def vN(ka:List Kd)(kr:List Ans)(pre:Cs reg ka→Bool)(M:Cs reg ka→aJ reg kr):Spec reg.T :=
 ⟨Cs reg ka,uI reg ka,fun _=>[],pre,fun a=>.ret (qBy reg kr (M a),(fP reg kr (M a)).map some)⟩
def V.yZ{T:Nat→Type}(ρ:List (Nat×Nat)):V T→Bool
 | .d _=>true
 | .ptr i _ _=>lI ρ i i
 | .sl i _ _ _=>lI ρ i i
 | .agg vs=>goL ρ vs
 | .tup vs=>goL ρ vs
 | _=>false
where goL {T:Nat→Type} (ρ:List (Nat×Nat)):List (V T)→Bool
 | []=>true
 | v::vs=>V.yZ ρ v&&goL ρ vs
def qMB{T:Nat→Type}(ρ:List (Nat×Nat)):Nat→List (O T)→Bool
 | _,[]=>true
 | n,.trows _ _::os=>lI ρ n n&&qMB ρ (n+1) os
 | _,_=>false
def qCe(kr:List Ans)(x:aJ reg kr):Bool :=
 let os:=(fP reg kr x).map some
 let ρ:=wS 0 (lJ (fP reg kr x)).h (qBy reg kr x) (qBy reg kr x) os
 (bE (ρ.map (·.2))&&(ρ.all fun p=>Nat.blt p.1 os.length))&&V.yZ ρ (qBy reg kr x)&&qMB ρ 0 (fP reg kr x)&&eqN ((aJ.aL reg kr x).map (·.1)) 0&&Nat.ble (fP reg kr x).length 1000
where eqN:List Nat→Nat→Bool
 | [],_=>true
 | i::l,n=>Nat.beq i n&&eqN l (n+1)
end
section
variable {reg:Reg} {P:Program} {hd:Hd reg.T}
theorem qIM{ρ:List (Nat×Nat)}:∀(v:V reg.T),V.yZ ρ v=true→gB ρ v v:=by
 have key:∀(n:Nat) (v:V reg.T),SizeOf.sizeOf v<n→V.yZ ρ v=true→gB ρ v v:=by
  intro n
  induction n with
  | zero=>intro v h;omega
  | succ n ih =>
   have goL:∀vs:List (V reg.T),SizeOf.sizeOf vs<n+1→V.yZ.goL ρ vs=true→gB.goL ρ vs vs:=by
    intro vs
    induction vs with
    | nil=>intro _ _;exact trivial
    | cons v vs ihv =>
     intro hs h
     simp only[ny] at hs
     simp only[V.yZ.goL,bu] at h
     exact⟨ih v (by omega) h.1,ihv (by omega) h.2⟩
   intro v hs h
   cases v with
   | d x=>exact jJ x
   | ptr i r o=>exact(aK _ _).2 ⟨h,rfl,rfl⟩
   | sl i off len cap=>exact(aK _ _).2 ⟨h,rfl,rfl,by cases cap with | exact c=>exact rfl | least c=>exact dh c⟩
   | agg vs=>simp only[V.agg.sizeOf_spec] at hs;exact goL vs (by omega) h
   | tup vs=>simp only[V.tup.sizeOf_spec] at hs;exact goL vs (by omega) h
   | _=>cases h
 intro v
 exact key (SizeOf.sizeOf v+1) v (by omega)
theorem qED{ρ:List (Nat×Nat)}{i j:Nat}(h:lI ρ i j=true):aQ ρ i=some j:=by
 unfold lI at h
 split at h
 ·rename_i k hk;rw[hk,cz h]
 ·cases h
theorem qEE{ρ:List (Nat×Nat)}{g:Tr (O reg.T)}:∀{os:List (O reg.T)} {n:Nat},qMB ρ n os=true→(∀j,j<os.length→g.get (n+j)=os[j]?)→mR ρ g (at0 n (os.map some))
 | [],n,_,_=>trivial
 | o::os,n,h,hg=>by
  cases o with
  | trows e xs =>
   simp only[qMB,bu] at h
   have h0:=hg 0 (by simp)
   simp only[ky,pg] at h0
   simp only[List.map,at0,mR,qED h.1,h0]
   refine⟨rfl,qEE h.2 fun j hj=>?_⟩
   have:= hg (j+1) (by simpa using hj)
   rw[show n+1+j=n+(j+1) by omega,this];simp
  | _=>cases h
theorem qKl{kr:List Ans}{x:aJ reg kr}(h:qCe reg kr x=true):qM4 0 (qBy reg kr x,lJ (fP reg kr x)) (qBy reg kr x) ((fP reg kr x).map some):=by
 unfold qCe at h
 simp only[bu] at h
 obtain⟨⟨⟨⟨⟨h1,h2⟩,h3⟩,h4⟩,h5⟩,h6⟩:=h
 have h6:(fP reg kr x).length≤1000:=bz h6
 refine(aK _ _).2 ⟨?_,qIM _ h3,qEE h4 fun j hj=>?_⟩
 ·simp only[bu]
  exact⟨⟨⟨rfl,h1⟩,h2⟩,fw (di _)⟩
 ·rw[fe];exact qBc (by omega) j
theorem qD5:∀{l:List Nat} {n:Nat},qCe.eqN l n=true→∀j,j<l.length→l[j]? = some (n+j)
 | [],n,_,j,hj=>by simp at hj
 | i::l,n,h,j,hj=>by
  simp only[qCe.eqN,bu] at h
  cases j with
  | zero=>simp[cz h.1]
  | succ j =>
   have:= qD5 h.2 j (by simpa using hj)
   simp only[lu,this]
   congr 1;omega
theorem Ans.qMC{k:Kd}{v:V reg.T}{g:Nat→Option (O reg.T)}{x:k.T reg}{ρ:Rho}{b:Ob}(h:Ans.read reg (.one k) v g=some (b,x,ρ))(hb:okO b=true) :
  ρ.map (·.1)=k.names∧(∀(F:Nat→Prop) (w:World) (φ φ':Phi),Agree ρ φ φ'→∀cv,aA reg F w φ v cv→aA reg F w φ' (qBg reg k x) cv) ∧
   ∀i ob,(i,ob)∈k.aL reg x→∃o,(i,o)∈ρ∧lN ρ g i o ob:=by
 have h:(match lL reg k v g with | some (b,x,o)=>some (b,x,fM k o []) | none=>none)=some (b,x,ρ):=h
 cases hr:lL reg k v g with
 | none=>rw[hr] at h;cases h
 | some q =>
  obtain⟨b',x',o⟩:=q
  rw[hr] at h
  have h:=ik h
  have e1:b' = b:=congrArg Prod.fst h
  have e2:x' = x:=congrArg (fun q:Ob×k.T reg×Rho=>q.2.1) h
  have e3:fM k o []=ρ:=congrArg (fun q:Ob×k.T reg×Rho=>q.2.2) h
  subst e1 e2 e3
  obtain⟨_,h2,h3⟩:=qC5 hr hb
  exact⟨by rw[vH];simp,h2,fun i ob hi=>⟨o,h3 i ob hi⟩⟩
theorem Ans.qOW{ks:List Kd}{v:V reg.T}{g:Nat→Option (O reg.T)}{x:Cs reg ks}{ρ:Rho}{b:Ob}(h:Ans.read reg (.st ks) v g=some (b,x,ρ))(hb:okO b=true) :
  ρ.map (·.1)=ks.flatMap Kd.names∧(∀(F:Nat→Prop) (w:World) (φ φ':Phi),Agree ρ φ φ'→∀cv,aA reg F w φ v cv→aA reg F w φ' (.agg (Cs.enc reg ks x)) cv) ∧
   ∀i ob,(i,ob)∈Cs.aL reg ks x→∃o,(i,o)∈ρ∧lN ρ g i o ob:=by
 cases v with
 | agg cs =>
  have h:jG reg ks cs g=some (b,x,ρ):=h
  obtain⟨h1,h2,h3,h4,h5⟩:=jH h hb
  refine⟨h1,fun F w φ φ' ha cv hv=>?_,h5⟩
  cases hv with
  | agg _ cs' hz hh=>exact .agg _ _ (h2.trans hz) fun j hj=>h4 F w φ φ' ha j _ (by omega) (hh j (by omega))
 | _=>cases h
theorem Ans.qMD{j:Nat}{ks:List Kd}{v:V reg.T}{g:Nat→Option (O reg.T)}{x:Cs reg ks}{ρ:Rho}{b:Ob}(h:Ans.read reg (.ptr j ks) v g=some (b,x,ρ))(hb:okO b=true) :
  ρ.map (·.1)=j::ks.flatMap Kd.names∧(∀(F:Nat→Prop) (w:World) (φ φ':Phi),Agree ρ φ φ'→∀cv,aA reg F w φ v cv→aA reg F w φ' (.ptr j 0 0) cv) ∧
   ∀i ob,(i,ob)∈Ans.aL reg (.ptr j ks) x→∃o,(i,o)∈ρ∧lN ρ g i o ob:=by
 have h:(match qAi reg v g with
  | some (i,cs)=>(match jG reg ks cs g with | some (b,x,l)=>some (b,x,(j,some i)::l) | none=>none)
  | none=>none)=some (b,x,ρ):=h
 cases ho:qAi reg v g with
 | none=>rw[ho] at h;cases h
 | some q =>
  obtain⟨i,cs⟩:=q
  obtain⟨rfl,k,hg⟩:=qEC reg ho
  rw[ho] at h
  simp only at h
  cases hr:jG reg ks cs g with
  | none=>rw[hr] at h;cases h
  | some q =>
   obtain⟨b',y,l⟩:=q
   rw[hr] at h
   have h:=ik h
   have e1:b' = b:=congrArg Prod.fst h
   have e2:y=x:=congrArg (fun q:Ob×Cs reg ks×Rho=>q.2.1) h
   have e3:(j,some i)::l=ρ:=congrArg (fun q:Ob×Cs reg ks×Rho=>q.2.2) h
   subst e1 e2 e3
   obtain⟨h0,h1,h2,h3,h4⟩:=jH hr hb
   have s2:∀p∈l,p∈(j,some i)::l:=fun p hp=>by simp[hp]
   refine⟨by simp[h0],fun F w φ φ' ha cv hv=>?_,fun i' ob hm=>?_⟩
   ·cases hv with
    | ptr _ _ _ bb s k z hp=>exact .ptr j 0 0 bb s k z ((ha j (some i) (by simp)).trans hp)
   ·have hm:(i',ob)∈(j,O.rows (Cs.enc reg ks y).length [Cs.enc reg ks y])::Cs.aL reg ks y:=hm
    simp only[fu,dx] at hm
    rcases hm with⟨rfl,rfl⟩ | hm
    ·exact⟨some i,by simp,_,hg,fun F w φ φ' ha hi ho=>qBi h1 h2 (fun c cv hc hv=>h3 F w φ φ' (ha.sub s2) c cv hc hv) hi ho⟩
    ·obtain⟨o,c1,c2⟩:=h4 i' ob hm
     exact⟨o,s2 _ c1,c2.sub s2⟩
theorem Ans.dU{r:Ans}{v:V reg.T}{g:Nat→Option (O reg.T)}{x:r.T reg}{ρ:Rho}{b:Ob}(h:r.read reg v g=some (b,x,ρ))(hb:okO b=true) :
  ρ.map (·.1)=r.names∧(∀(F:Nat→Prop) (w:World) (φ φ':Phi),Agree ρ φ φ'→∀cv,aA reg F w φ v cv→aA reg F w φ' (r.enc reg x) cv) ∧
   ∀i ob,(i,ob)∈r.aL reg x→∃o,(i,o)∈ρ∧lN ρ g i o ob:=by
 cases r with
 | one k=>exact Ans.qMC h hb
 | st ks=>exact Ans.qOW h hb
 | ptr j ks=>exact Ans.qMD h hb
theorem aJ.dU:∀{rs:List Ans} {vs:List (V reg.T)} {g:Nat→Option (O reg.T)} {x:aJ reg rs} {ρ:Rho} {b:Ob},aJ.read reg rs vs g=some (b,x,ρ)→okO b=true →
  ρ.map (·.1)=rs.flatMap Ans.names∧(aJ.enc reg rs x).length=vs.length∧(∀(F:Nat→Prop) (w:World) (φ φ':Phi),Agree ρ φ φ'→∀j cv,j<vs.length→aA reg F w φ (vs.getD j .any) cv→aA reg F w φ' ((aJ.enc reg rs x).getD j .any) cv) ∧
   ∀i ob,(i,ob)∈aJ.aL reg rs x→∃o,(i,o)∈ρ∧lN ρ g i o ob
 | [],vs,g,x,ρ,b,h,hb=>by
  simp only[aJ.read] at h
  split at h
  ·cases h
   exact⟨rfl,rfl,fun _ _ _ _ _ j _ hj=>by simp at hj,fun i ob hi=>by simp[aJ.aL] at hi⟩
  ·cases h
 | r::rs,vs,g,x,ρ,_,h,hb=>by
  simp only[aJ.read] at h
  split at h
  ·rename_i v vs
   split at h
   ·rename_i b1 x1 ρ1 b2 y ρ2 e1 e2
    simp only[cu,dx] at h
    obtain⟨rfl,rfl,rfl⟩:=h
    obtain⟨hb1,hb2⟩:=wV hb
    obtain⟨a1,a2,a3⟩:=Ans.dU e1 hb1
    obtain⟨c1,c2,c3,c4⟩:=aJ.dU e2 hb2
    have s1:∀p∈ρ1,p∈ρ1++ρ2:=fun p hp=>qj _ hp
    have s2:∀p∈ρ2,p∈ρ1++ρ2:=fun p hp=>nz _ hp
    refine⟨by simp[a1,c1],by simp only[aJ.enc,j5,c2],fun F w φ φ' ha j cv hj hv=>?_,fun i ob hi=>?_⟩
    ·cases j with
     | zero=>exact a2 F w φ φ' (ha.sub s1) cv (by simpa using hv)
     | succ j =>
      have:= c3 F w φ φ' (ha.sub s2) j cv (by simpa using hj) (by simpa using hv)
      simpa [aJ.enc] using this
    ·simp only[aJ.aL,dw] at hi
     rcases hi with hi | hi
     ·obtain⟨o,d1,d2⟩:=a3 i ob hi;exact⟨o,s1 _ d1,d2.sub s1⟩
     ·obtain⟨o,d1,d2⟩:=c4 i ob hi;exact⟨o,s2 _ d1,d2.sub s2⟩
   ·cases h
  ·cases h
theorem qKm{rs:List Ans}{v:V reg.T}{g:Nat→Option (O reg.T)}{x:aJ reg rs}{ρ:Rho}{b:Ob}(hne:rs≠[])(h:aJ.read reg rs (qKk rs v) g=some (b,x,ρ))(hb:okO b=true){F:Nat→Prop}{w:World}{φ φ':Phi}(ha:Agree ρ φ φ'){cv:Value}(hv:aA reg F w φ v cv):aA reg F w φ' (qBy reg rs x) cv:=by
 obtain⟨_,h2,h3,_⟩:=aJ.dU h hb
 match rs,x,h,h2,h3,hne with
 | [r],x,h,h2,h3,_=>exact h3 F w φ φ' ha 0 cv (by simp[qKk]) (by simpa [qKk] using hv)
 | [],x,h,h2,h3,hne=>exact(hne rfl).elim
 | r::s::rs,x,h,h2,h3,_ =>
  cases v with
  | tup vs =>
   have h2:(aJ.enc reg (r::s::rs) x).length=vs.length:=h2
   cases hv with
   | tup _ cs hz hh=>exact .tup _ cs (h2.trans hz) fun j hj=>h3 F w φ φ' ha j _ (by show j<vs.length;omega) (hh j (by omega))
  | _=>cases h
theorem iN{α:Type}:∀{l:List (Nat×α)} {m:Nat} {o:α},bE (l.map (·.1))=true→(m,o)∈l→aQ l m=some o
 | [],_,_,_,h=>by cases h
 | (i,x)::l,m,o,hn,h=>by
  simp only[List.map,bE,bu,jv] at hn
  simp only[aQ]
  rcases fu.1 h with e | e
  ·cases e;rw[jq]
  ·have hne:Nat.beq i m=false:=by
    cases hb:Nat.beq i m with
    | false=>rfl
    | true =>
     have:= cz hb
     subst this
     have: fI (l.map (·.1)) i=true:=bZ.2 (fq.2 ⟨_,e,rfl⟩)
     rw[hn.1] at this;cases this
   rw[hne]
   exact iN hn.2 e
theorem Kd.aZ{k:Kd}{x:k.T reg}:(k.aL reg x).map (·.1)=k.names:=by cases k<;>rfl
theorem Cs.aZ:∀{ks:List Kd} {x:Cs reg ks},(Cs.aL reg ks x).map (·.1)=ks.flatMap Kd.names
 | [],_=>rfl
 | k::ks,x=>by simp only[Cs.aL,kg,ib,Kd.aZ,Cs.aZ]
theorem aJ.aZ:∀{rs:List Ans} {x:aJ reg rs},(aJ.aL reg rs x).map (·.1)=rs.flatMap Ans.names
 | [],_=>rfl
 | r::rs,x=>by
  simp only[aJ.aL,kg,ib,aJ.aZ]
  cases r with
  | one k=>exact congrArg (·++ _) (Kd.aZ (k:=k))
  | st ks=>exact congrArg (·++ _) (Cs.aZ (ks:=ks))
  | ptr j ks=>exact congrArg (fun l=>(j::l)++_) (Cs.aZ (ks:=ks))
theorem qGc{ex:Nat→ExR reg.T}(hex:∀nt,nt≤1000000→rU P nt (ex nt)){fuel:Nat}{L J:Nat→St reg.T→Option (List Ld)}{f:FuncId}{fn:Func}(hfn:P.funcs[f]? = some fn)(ht:There P f){ka:List Kd}{kr:List Ans}(hne:kr≠[])(hly:∀x,qCe reg kr x=true){pre:Cs reg ka→Bool}{M:Cs reg ka→aJ reg kr}
  (h:∀a,pre a=true→(qAy reg P ex fuel L J fn (uI reg ka a) ⟨.e,0,[]⟩ (qOV reg kr)).G (M a)):pX P f (vN reg ka kr pre M):=by
 refine⟨ht,fun a hp F φ w cargs hH hl0 q hq=>?_⟩
 have hq:(qBy reg kr (M a),(fP reg kr (M a)).map some)=q:=hq
 subst hq
 refine(qCd hex hfn (h:=lJ []) (h a hp) hH hl0).mono fun e w' he=>?_
 obtain⟨cv,he,v,h',N',F',φ',hq',hv,hH',hG⟩:=he
 refine⟨cv,he,?_⟩
 unfold qOV at hq'
 obtain⟨q,hK,hq'⟩:=(Out.bP _ _).1 (DT.dH hq')
 have step:∃N2 F2 φ2,aA reg F2 w' φ2 q.1 cv∧HR N2 F2 φ2 q.2 w'∧GO (fun j=>j<0) F φ (lJ []) w N2 F2 φ2 q.2 w':=by
  split at hK
  ·cases hK;exact⟨N',F',φ',hv,hH',hG⟩
  ·obtain⟨v2,h2,N2,F2,φ2,e2,a1,a2,a3⟩:=(nV (h0:=lJ []) hK).2 _ F φ w cv w' ⟨v,h',N',F',φ',rfl,hv,hH',hG⟩
   subst e2
   exact⟨N2,F2,φ2,a1,a2,a3⟩
 obtain⟨N2,F2,φ2,hv2,hH2,hG2⟩:=step
 split at hq'
 ·rename_i b x ρ hr
  split at hq'
  ·rename_i hnm
   obtain⟨hb,hq'⟩:=kN hq'
   have hq':x=M a:=hq'
   subst hq'
   unfold qQK at hnm
   simp only[bu] at hnm
   obtain⟨hsm,hky⟩:=hnm
   obtain⟨hnames,_,_,hobj⟩:=aJ.dU hr hb
   have hly1:=hly (M a)
   unfold qCe at hly1
   simp only[bu] at hly1
   obtain⟨⟨_,heq⟩,hlen⟩:=hly1
   have hlen:(fP reg kr (M a)).length≤1000:=bz hlen
   have hll:(fP reg kr (M a)).length=(aJ.aL reg kr (M a)).length:=by simp[fP]
   have hget:∀j,(lJ (fP reg kr (M a))).get j=(fP reg kr (M a))[j]?:=qBc (by omega)
   have hat:∀j o,(fP reg kr (M a))[j]? = some o→(j,o)∈aJ.aL reg kr (M a):=by
    intro j o hj
    have hj1:j<(aJ.aL reg kr (M a)).length:=by rw[←hll];exact(eu.1 hj).1
    have h1:=qD5 heq j (by simpa using hj1)
    simp only[fP,mg,gu hj1,qo,cu,fe] at hj h1
    have: (aJ.aL reg kr (M a))[j]=(j,o):=Prod.ext h1 hj
    exact this▸l9 hj1
   let φc:Phi:=fun m=>match aQ ρ m with | some (some j)=>φ2 j | _=>none
   have hag:Agree ρ φ2 φc:=by
    intro m o hm'
    have: aQ ρ m=some o:=iN hky hm'
    show(match aQ ρ m with | some (some j)=>φ2 j | _=>none)=_
    rw[this]
    cases o<;>rfl
   have hφc:∀m p,φc m=some p→∃j,(m,some j)∈ρ∧φ2 j=some p:=by
    intro m p hp
    have hp:(match aQ ρ m with | some (some j)=>φ2 j | _=>none)=some p:=hp
    split at hp
    ·rename_i j hj;exact⟨j,fF hj,hp⟩
    ·cases hp
   have hnlt:∀m o,(m,o)∈ρ→m<(fP reg kr (M a)).length:=by
    intro m o hm'
    have h1:m∈ρ.map (·.1):=fq.2 ⟨_,hm',rfl⟩
    rw[hnames,←aJ.aZ (reg:=reg) (x:=M a)] at h1
    obtain⟨j,hj,hjm⟩:=List.mem_iff_getElem.1 h1
    have h2:=qD5 heq j hj
    rw[gu hj,hjm,fe] at h2
    have:= ik h2
    rw[hll];simp only[iq] at hj;omega
   have hobj2:∀m j,(m,some j)∈ρ→∃u,q.2.get j=some u:=by
    intro m j hm'
    have hlt:=hnlt m _ hm'
    obtain⟨oo,h1,h2⟩:=hobj m _ (hat m _ (gu hlt))
    have e1:=iN hky hm'
    have e2:=iN hky h1
    rw[e1] at e2
    cases ik e2
    obtain⟨u,h3,_⟩:=h2
    exact⟨u,h3⟩
   refine⟨qBy reg kr (M a),lJ (fP reg kr (M a)),fun j=>j<(fP reg kr (M a)).length,F2,φc,qKl (hly _),qKm hne hr hb hag hv2,?_,?_⟩
   ·refine⟨fun j o hj=>?_,fun j o b s k hj hp=>?_,fun j j' oj oj' b s k s' k' hj hj' hp hp'=>?_,fun j p hp=>?_,fun j o hj=>?_,fun j hj=>?_,hH2.frz,hH2.lay⟩
    ·rw[hget] at hj
     obtain⟨oo,h1,h2⟩:=hobj j o (hat j o hj)
     cases oo with
     | none =>
      obtain⟨e,rfl⟩:=h2
      exact .inl ⟨rfl,.inl ⟨rfl,hag j none h1⟩⟩
     | some j' =>
      obtain⟨u,h3,h4⟩:=h2
      exact h4 F2 w' φ2 φc hag (hag j (some j') h1) (hH2.obj j' u h3)
    ·obtain⟨j',h1,h2⟩:=hφc j _ hp
     obtain⟨u,h3⟩:=hobj2 j j' h1
     exact hH2.own j' u b s k h3 h2
    ·obtain⟨i,h1,h2⟩:=hφc j _ hp
     obtain⟨i',h1',h2'⟩:=hφc j' _ hp'
     obtain⟨u,h3⟩:=hobj2 j i h1
     obtain⟨u',h3'⟩:=hobj2 j' i' h1'
     have:= hH2.inj i i' u u' b s k s' k' h3 h3' h2 h2'
     subst this
     exact kW hsm h1 h1'
    ·obtain⟨j',h1,_⟩:=hφc j p hp
     exact hnlt j _ h1
    ·rw[hget] at hj
     exact(eu.1 hj).1
    ·have hj:j<(fP reg kr (M a)).length:=hj
     simp[Tr.ok];omega
   ·have hno:∀b,bR reg φc (lJ (fP reg kr (M a))).get b→bR reg φ2 q.2.get b:=by
     rintro b ⟨i,o,s,k,h1,h2⟩
     obtain⟨j',h3,h4⟩:=hφc i _ h2
     obtain⟨u,h5⟩:=hobj2 i j' h3
     exact⟨j',u,s,k,h5,h4⟩
    refine⟨⟨hG2.goes.os,hG2.goes.tape,hG2.goes.output,hG2.goes.size,hG2.goes.block,hG2.goes.fsub,hG2.goes.fnew,fun i hi=>(p8 _ hi).elim,fun i hi=>(p8 _ hi).elim,fun b hb=>hG2.goes.dom b (hno b hb),fun i p hp=>?_⟩,⟨di _,[],rfl,fun i _ hi=>?_⟩,fun i hi=>.inr ⟨di _,hi⟩⟩
    ·obtain⟨j',_,h4⟩:=hφc i p hp
     rcases hG2.goes.new j' p h4 with h5 | h5
     ·exact(p8 _ h5).elim
     ·exact .inr h5
    ·rw[hget]
     have hi:¬(0≤i∧i<(fP reg kr (M a)).length):=hi
     rw[l7 (by omega)]
     rfl
  ·exact hq'.elim
 ·exact hq'.elim
def iE(ka:List Kd)(kr:List Ans)(pre:Cs reg ka→Bool)(M:Cs reg ka→aJ reg kr)(hk:ka.all bK=true):qJO (vN reg ka kr pre M) where
 find args g:=lS reg ka args g
 ok args g a ρ h:=by
  unfold lS at h
  split at h
  ·rename_i x hx
   cases h
   obtain⟨c1,_,_⟩:=oD hx hk
   exact⟨c1 _,rfl,fun j o hj=>by simp[vN] at hj⟩
  ·cases h
end
end Go.W
namespace Go.W
open Go Go.RowKit
section
variable (reg:Reg)
def qKn(h:Hp reg.T)(q:V reg.T×List (Option (O reg.T))):Out (V reg.T×Hp reg.T) :=
 Out.ask (Tr.ok (Nat.add h.nx (Nat.sub q.2.length 0))) (.ret (q.1.ren (qCa 0 h.nx []),⟨kM (qCa 0 h.nx []) (at0 0 q.2) h.h,Nat.add h.nx (Nat.sub q.2.length 0),h.wr⟩))
def jS(ka:List Kd){R:Type}(e:R→V reg.T×List (Option (O reg.T)))(pre:Cs reg ka→Bool)(M:Cs reg ka→R):CJ reg.T:=fun args h α k =>
 DT.bI (fO reg args h) fun q=>(match lS reg ka q.1 q.2.get with
  | some (a,_)=>.need (pre a) (.join (σ:=R) (.ret (.inl (M a))) fun r=>DT.bI (qKn reg q.2 (e r)) k)
  | none=>.bad)
def jB(ka kr:List Kd)(pre:Cs reg ka→Bool)(M:Cs reg ka→Cs reg kr):CJ reg.T:=fun args h α k =>
 DT.bI (fO reg args h) fun q=>(match lS reg ka q.1 q.2.get with
  | some (a,_)=>.need (pre a) (.join (σ:=Cs reg kr) (.ret (.inl (M a))) fun r=>k (encR reg kr r,h))
  | none=>.bad)
end
section
open DT
variable {reg:Reg}
theorem qKo{ka:List Kd}{R:Type}{e:R→V reg.T×List (Option (O reg.T))}{pre:Cs reg ka→Bool}{M:Cs reg ka→R}(args:List (V reg.T))(h:Hp reg.T):dL (jS reg ka e pre M args h):=by
 refine eU (t:=fun α k=>bI (fO reg args h) k) (dC _) fun q=>?_
 cases hf:lS reg ka q.1 q.2.get with
 | none=>simp only[hf];exact bF
 | some p =>
  obtain⟨a,l⟩:=p
  simp only[hf]
  exact xD _ (xE (lU (M a)) fun r=>dC _)
theorem qOX{ka kr:List Kd}{pre:Cs reg ka→Bool}{M:Cs reg ka→Cs reg kr}(args:List (V reg.T))(h:Hp reg.T):dL (jB reg ka kr pre M args h):=by
 refine eU (t:=fun α k=>bI (fO reg args h) k) (dC _) fun q=>?_
 cases hf:lS reg ka q.1 q.2.get with
 | none=>simp only[hf];exact bF
 | some p =>
  obtain⟨a,l⟩:=p
  simp only[hf]
  exact xD _ (xE (lU (M a)) fun r=>dV _)
theorem qKp{α σ:Type}{s:σ}{k:σ→DT α}{x:α}(h:(DT.join (.ret (.inl s)) k).G x):(k s).G x:=by
 obtain⟨y,h1,h2⟩:=DT.iM.1 h
 have h1:Sum.inl s=y:=h1
 subst h1
 exact h2
theorem qIN{ka:List Kd}{args:List (V reg.T)}{g:Nat→Option (O reg.T)}{a:Cs reg ka}{l:List Nat}(h:lS reg ka args g=some (a,l)):l=[]:=by
 unfold lS at h
 split at h
 ·cases h;rfl
 ·cases h
theorem qSz{ka kr:List Kd}{pre:Cs reg ka→Bool}{M:Cs reg ka→Cs reg kr}{args:List (V reg.T)}{h:Hp reg.T}{α:Type}{k:V reg.T×Hp reg.T→DT α}{x:α}(hq:(jB reg ka kr pre M args h α k).G x):(lT reg ka kr pre M args h).K fun r=>(k r).G x:=by
 unfold lT
 rw[Out.aU]
 refine Out.bN (bU.1 hq) fun q hq=>?_
 cases hf:lS reg ka q.1 q.2.get with
 | none=>simp only[hf] at hq;exact hq.elim
 | some p =>
  obtain⟨a,l⟩:=p
  simp only[hf] at hq ⊢
  obtain⟨h1,h2⟩:=(aK _ _).1 hq
  exact Out.aO.2 ⟨h1,qKp (k:=fun r=>k (encR reg kr r,h)) h2⟩
theorem qQL{S:Spec reg.T}{Me:qJO S}{ka:List Kd}{R:Type}{e:R→V reg.T×List (Option (O reg.T))}{M:Cs reg ka→R}(hα:S.α=Cs reg ka){pre:Cs reg ka→Bool}
  (hS:∀args h Q,(∃a,lS reg ka args h.get=some (a,[])∧pre a=true∧(qKn reg h (e (M a))).K Q)→(S.con Me args h).K Q) {args:List (V reg.T)} {h:Hp reg.T} {α:Type} {k:V reg.T×Hp reg.T→DT α} {x:α} (hq:(jS reg ka e pre M args h α k).G x):((fO reg args h).bind fun q=>S.con Me q.1 q.2).K fun r=>(k r).G x:=by
 rw[Out.aU]
 refine Out.bN (bU.1 hq) fun q hq=>?_
 cases hf:lS reg ka q.1 q.2.get with
 | none=>simp only[hf] at hq;exact hq.elim
 | some p =>
  obtain⟨a,l⟩:=p
  have:= qIN hf
  subst this
  simp only[hf] at hq
  obtain⟨h1,h2⟩:=(aK _ _).1 hq
  exact hS _ _ _ ⟨a,hf,h1,bU.1 (qKp h2)⟩
theorem qHi{h:Hp reg.T}{q:V reg.T×List (Option (O reg.T))}{Q:V reg.T×Hp reg.T→Prop}(hK:(qKn reg h q).K Q):(Out.ask (bE ([]:List Nat)&&([]:List Nat).all Tr.ok&&Nat.ble ([]:List Nat).length q.2.length&&Tr.ok (Nat.add h.nx (Nat.sub q.2.length ([]:List Nat).length)))
  (.ret (q.1.ren (qCa ([]:List Nat).length h.nx []),⟨kM (qCa ([]:List Nat).length h.nx []) (at0 0 q.2) h.h,Nat.add h.nx (Nat.sub q.2.length ([]:List Nat).length),[]++h.wr⟩):Out (V reg.T×Hp reg.T))).K Q:=by
 obtain⟨h1,h2⟩:=Out.bG.1 hK
 refine Out.bG.2 ⟨?_,h2⟩
 simp only[bE,List.all_nil,Bool.and_self,oq,bu]
 exact⟨fw (di _),h1⟩
theorem qS0{ka kr:List Kd}{pre:Cs reg ka→Bool}{M:Cs reg ka→Cs reg kr}(hk:ka.all bK=true){args:List (V reg.T)}{h:Hp reg.T}{α:Type}{k:V reg.T×Hp reg.T→DT α}{x:α}(hq:(jS reg ka (fun r=>(encR reg kr r,[])) pre M args h α k).G x) :
  ((fO reg args h).bind fun q=>(uR reg ka kr pre M).con (xC ka kr pre M hk) q.1 q.2).K fun r=>(k r).G x:=by
 refine qQL (S:=uR reg ka kr pre M) (Me:=xC ka kr pre M hk) rfl (fun args h Q ⟨a,h1,h2,h3⟩=>?_) hq
 unfold Spec.con
 have h1:(xC ka kr pre M hk).find args h.get=some (a,[]):=h1
 rw[h1]
 refine Out.aO.2 ⟨h2,?_⟩
 rw[Out.aU]
 exact qHi h3
theorem qS1{ka:List Kd}{kr:List Ans}{pre:Cs reg ka→Bool}{M:Cs reg ka→aJ reg kr}(hk:ka.all bK=true){args:List (V reg.T)}{h:Hp reg.T}{α:Type}{k:V reg.T×Hp reg.T→DT α}{x:α}(hq:(jS reg ka (fun r=>(qBy reg kr r,(fP reg kr r).map some)) pre M args h α k).G x) :
  ((fO reg args h).bind fun q=>(vN reg ka kr pre M).con (iE ka kr pre M hk) q.1 q.2).K fun r=>(k r).G x:=by
 refine qQL (S:=vN reg ka kr pre M) (Me:=iE ka kr pre M hk) rfl (fun args h Q ⟨a,h1,h2,h3⟩=>?_) hq
 unfold Spec.con
 have h1:(iE ka kr pre M hk).find args h.get=some (a,[]):=h1
 rw[h1]
 refine Out.aO.2 ⟨h2,?_⟩
 rw[Out.aU]
 exact qHi h3
end
end Go.W
namespace Go.W
open Go Go.RowKit
section
variable (reg:Reg) (P:Program)
def qKq(nt:Nat)(ops:Array Oper)(draw:Bool)(st:St reg.T):Option (Nat×Nat×V reg.T×Nat):=match draw,ops.toList with
 | false,[o0,o1]=>(match o0.op,o0.dst,o0.guard,o1.op,o1.dst,o1.guard with
  | .move (.tmp s),some d0,none,.binOp .eql t (.tmp e0) y _,some d1,none=>(match Nat.beq d0 e0&&qDb y&&gL nt (some d0)&&gL nt (some d1),sliceT P t,st.env.get s with
   | true,some _,some (.d (.sl e xs))=>some (d0,d1,.d (.sl e xs),xs.length)
   | _,_,_=>none)
  | _,_,_,_,_,_=>none)
 | _,_=>none
def exB(nt:Nat)(ex:ExR reg.T):ExR reg.T:=fun ops draw st α k=>match qKq reg P nt ops draw st with
 | some (d0,d1,v,n)=>.br (Nat.beq n 0) (.both (k ((st.put (some d0) v).put (some d1) (.d (.bool true)))) (k ((st.put (some d0) v).put (some d1) (.d (.bool false))))) (k ((st.put (some d0) v).put (some d1) (.d (.bool false))))
 | none=>ex ops draw st α k
end
section
variable {reg:Reg} {P:Program} {nt:Nat}
theorem qOY(hnt:nt≤1000000){ex:ExR reg.T}(hex:rU P nt ex):rU P nt (exB reg P nt ex):=by
 intro id ops draw st α k x h n0 F0 φ0 H0 w0 a w hR
 unfold exB at h
 split at h
 ·rename_i d0 d1 v n hn
  unfold qKq at hn
  split at hn
  ·rename_i o0 o1 hops
   split at hn
   ·rename_i s d0' t e0 y yt d1' hop0 hd0 hg0 hop1 hd1 hg1
    split at hn
    ·rename_i e' e xs hc ht hv
     simp only[cu,dx] at hn
     obtain⟨rfl,rfl,rfl,rfl⟩:=hn
     simp only[bu] at hc
     obtain⟨⟨⟨hde,hny⟩,hk0⟩,hk1⟩:=hc
     have hde:=cz hde
     subst hde
     have hops:ops = #[o0,o1]:=by
      apply Array.toList_inj.1;rw[hops]
     subst hops
     obtain⟨N,F,φ,hN,hR,hG⟩:=hR
     have hvs:aA reg F w φ (.d (.sl e xs)) (a.eval (.tmp s)):=kR hR (x:=.tmp s) hv
     refine(wpIn_wide (n:=0)).1 (wpIn_region (F:=Fr none) ?_)
     have hran:List.range (#[o0,o1]:Array Oper).size=[0,1]:=rfl
     rw[hran,wpOpsIn_cons]
     unfold wpOpIn
     have h00:(#[o0,o1]:Array Oper)[0]? = some o0:=rfl
     have h01:(#[o0,o1]:Array Oper)[1]? = some o1:=rfl
     simp only[h00]
     rw[if_pos (jD hR (show bJ #[o0,o1] o0 st.env.get=some true by unfold bJ;rw[hg0]))]
     refine Oper.qAL (fun c hc=>by rw[hop0] at hc;cases hc) (aV (Q:=fun r=>r=(.d (.sl e xs),st.hp)) (s:=pure (a.eval (.tmp s))) ⟨_,w,rfl,.pure hR.heap rfl hvs⟩ (by unfold execOp;rw[hop0];rfl) fun cv w1 hres=>?_)
     obtain⟨v1,h1,N1,F1,φ1,hq1,hv1,hH1,hG1⟩:=hres
     cases hq1
     have hR1:RF [] N1 F1 φ1 nt ⟨(st.put (some d0') (.d (.sl e xs))).env.get,(st.put (some d0') (.d (.sl e xs))).hp.get⟩ (a.put o0.dst cv) w1:=by
      have:= hR.put hH1 hG1.goes hk0 hv1
      rw[iB,show(st.put (some d0') (.d (.sl e xs)))=St.put ⟨st.env,st.hp⟩ (some d0') (.d (.sl e xs)) from rfl,nS hnt hk0,hd0]
      exact this
     rw[wpOpsIn_cons]
     unfold wpOpIn
     simp only[h01]
     rw[if_pos (jD hR1 (show bJ #[o0,o1] o1 (st.put (some d0') (.d (.sl e xs))).env.get=some true by unfold bJ;rw[hg1]))]
     have hu:P.underlying t=some (.slice e'):=by
      unfold sliceT at ht
      split at ht
      ·rename_i e2 hu;cases ht;exact hu
      ·cases ht
     have hok0:Tr.ok d0' = true:=by
      have hlt:d0' + 1≤nt:=bz hk0
      exact fw (show d0' + 1≤9223372036854775807 from dm hlt (dm hnt (by decide)))
     have hv2:aA reg F1 w1 φ1 (.d (.sl e xs)) ((a.put o0.dst cv).eval (.tmp d0')):=kR hR1 (x:=.tmp d0') (by
      show(st.env.set d0' (some (.d (.sl e xs)))).get d0' = _
      rw[Tr.dG hok0,if_pos rfl])
     have hey:(a.put o0.dst cv).eval y=.slice none 0 0:=by
      unfold qDb at hny
      split at hny
      ·rfl
      ·cases hny
     obtain⟨base,n,c,hcx,hbn⟩:∃(base:Option Addr) (n c:Nat),(a.put o0.dst cv).eval (.tmp d0')=.slice base n c∧(base.isNone=true→xs.length=0):=by
      generalize (a.put o0.dst cv).eval (.tmp d0')=cx at hv2
      cases hv2 with
      | d _ _ hd =>
       cases hd with
       | emp _ _ hl base cap=>exact⟨base,0,cap,rfl,fun _=>ik hl⟩
       | sl _ n a cap=>exact⟨some a,n,cap,rfl,fun h=>by cases h⟩
     refine Oper.qAL (fun c hc=>by rw[hop1] at hc;cases hc) (aV (Q:=fun r=>r=(.d (.bool base.isNone),st.hp)) (s:=do eqGuard .eql t (.tmp d0') y ((a.put o0.dst cv).eval (.tmp d0')) ((a.put o0.dst cv).eval y);binOp .eql t ((a.put o0.dst cv).eval (.tmp d0')) ((a.put o0.dst cv).eval y))
      (by rw[hcx,hey];exact qDr hH1 ⟨.bool base.isNone,.bool base.isNone,rfl,fun _ _=>.bool _,fun w=>by simp only[Sem.run_bind,iG (u:=.slice base n c) rfl,Result.andThen_ok];exact Lib.run_eql_slice_nil w t e' base n c 0 0 hu⟩) (by unfold execOp;rw[hop1]) fun cv2 w2 hres=>?_)
     obtain⟨v2,h2,N2,F2,φ2,hq2,hv2',hH2,hG2⟩:=hres
     cases hq2
     have hR2:RF [] N2 F2 φ2 nt ⟨((st.put (some d0') (.d (.sl e xs))).put (some d1') (.d (.bool base.isNone))).env.get,((st.put (some d0') (.d (.sl e xs))).put (some d1') (.d (.bool base.isNone))).hp.get⟩ ((a.put o0.dst cv).put o1.dst cv2) w2:=by
      have:= hR1.put hH2 hG2.goes hk1 hv2'
      rw[iB,show((st.put (some d0') (.d (.sl e xs))).put (some d1') (.d (.bool base.isNone)))=St.put ⟨(st.put (some d0') (.d (.sl e xs))).env,st.hp⟩ (some d1') (.d (.bool base.isNone)) from rfl,nS hnt hk1,hd1]
      exact this
     show qOk n0 F0 φ0 H0 w0 nt _ st k x .normal _ _
     refine⟨(st.put (some d0') (.d (.sl e xs))).put (some d1') (.d (.bool base.isNone)),?_,?_,?_,?_⟩
     ·have hh:=qKb.1 h
      cases hl:Nat.beq xs.length 0 with
      | true =>
       cases hb:base.isNone with
       | true=>exact(hh.1 hl).1
       | false=>exact(hh.1 hl).2
      | false =>
       cases hb:base.isNone with
       | true=>rw[hbn hb] at hl;cases hl
       | false=>exact hh.2 hl
     ·have k1:aS ([o0,o1].filterMap (·.dst)) st (st.put (some d0') (.d (.sl e xs))):=by rw[←hd0];exact nY (o:=o0) (l:=[o1]) hnt (by rw[hd0];exact hk0) st _
      have k2:aS ([o1].filterMap (·.dst)) (st.put (some d0') (.d (.sl e xs))) ((st.put (some d0') (.d (.sl e xs))).put (some d1') (.d (.bool base.isNone))):=by rw[←hd1];exact nY (o:=o1) (l:=[]) hnt (by rw[hd1];exact hk1) _ _
      exact k1.trans (nZ k2)
     ·exact Grow.refl _
     ·have hg:GO N F φ st.hp w N2 F2 φ2 st.hp w2:=hG1.trans hG2
      exact RA.go (st':=(st.put (some d0') (.d (.sl e xs))).put (some d1') (.d (.bool base.isNone))) hN hG hR2 hg
    ·cases hn
   ·cases hn
  ·cases hn
 ·exact hex _ _ _ _ _ _ _ h hR
end
end Go.W
namespace Go.W
open Go Go.RowKit Go.ChangeShapes Go.WideShapes Go.ChangeAt
section
variable {reg:Reg} {P:Program}
theorem qGd{H:Type}{enc:TypeId×Value→H}{C:Checked}{os:Os}{f:FuncId}{fn:Func}{s:ChangeSpec}{bt:TypeId}{X:World→Array Value→Prop}(hX:∀(w w':World) (args:Array Value),w.heap=w'.heap→X w args→X w' args)(own:ownKnob C.prog.godebug=none)(started:os.Started)
  (hl:laidOutB C.prog=true) (noInit:C.prog.inits.idxOf? f=none) (hfn:C.prog.funcs[f]? = some fn) (hread:∀t∈fn.params.toList,C.prog.readableRec t=true∧t<C.prog.types.size)
  (hres:fn.resultTypes = #[bt]) (hbt:C.prog.underlying bt=some .bool) (hvars:s.vars=[])
  (hs:∀ds:List (DataW H),ds.length=fn.params.size→s.fn H (ds++[]) = { results:=[.lit (.bool true)],args:=ds })
  (witness:∃(w:World) (tape:Tape) (i:Input),w.os=os∧(w.forCall tape i).Shaped C.prog∧i.vars=[]∧Input.okWide C.prog (w.forCall tape i) .any w.heap.size f i ∧
   ((s.pre enc C.prog fn [] false (w.forCall tape i).memory i.args∧X (w.forCall tape i).memory i.args)∧sizedMet enc C.prog fn (OpenSpec.ofChange s) false (w.forCall tape i).memory i.args)∧({}:Assume).holds C.prog (lone (Frame.enter C.prog f i.args .normal) [] (w.forCall tape i)))
  (n:Nat) (hchk:∀t∈fn.params.toList,qAY reg C.prog n t=true) (htot:∀n e vs,reg.k e=C.prog.cellsOf e→C.prog.cellsOf e≠0→WT reg C.prog n e vs→∃x,reg.enc e x=vs)
  (hTab:∀w args,X w args→reg.Tab w) (h:∀vs,yP reg C.prog n fn.params.toList vs→∃(S:Spec reg.T) (a:S.α),pX C.prog f S∧S.pre a=true∧S.args a=vs∧S.aL a=[]∧S.out a=.ret (.d (.bool true),[])) :
  ReturnsInHanded {} C os f .any (fun w args=>(s.pre enc C.prog fn [] false w args∧X w args)∧sizedMet enc C.prog fn (OpenSpec.ofChange s) false w args) (s.post enc C.prog fn false true false false):=by
 refine qBd hX own started hl noInit hfn hread hres hbt hvars hs witness ?_
 intro W base args ds ps hok _ hA _ hx
 obtain⟨vs,h1,h2,h4⟩:=qJM (reg:=reg) (P:=C.prog) (F:=fun b=>b<W.heap.size) (φ:=fun _=>none) (fun b hb=>hb) htot hchk
  (fun j t v ht hv=>hok j t v (by simpa using ht) (by simpa using hv)) hA
 obtain⟨S,a,hS,hp,ha,ho,hout⟩:=h vs h1
 have hH:iX reg (fun b=>b<W.heap.size) (fun _=>none) (fun j=>j<(S.aL a).length) (lJ (S.aL a)).get W:=by
  rw[ho]
  have he:∀j,(lJ ([]:List (O reg.T))).get j=none:=fun j=>rfl
  refine⟨fun i o hi=>?_,fun i o b s k hi=>?_,fun i j oi oj b s k s' k' hi=>?_,fun i p hp=>?_,fun i o hi=>?_,fun i hi=>(p8 _ hi).elim,fun b hb=>hb,⟨W,hTab W args hx,fun b hb=>⟨hb,rfl⟩⟩⟩
  ·rw[he] at hi;cases hi
  ·rw[he] at hi;cases hi
  ·rw[he] at hi;cases hi
  ·cases hp
  ·rw[he] at hi;cases hi
 refine(hS.2 a hp (fun b=>b<W.heap.size) (fun _=>none) W args hH (by rw[ha];exact⟨by simpa using h2,fun j hj=>by rw[←fU];exact h4 j hj⟩) _ (by rw[hout];rfl)).mono fun e W' he=>?_
 obtain⟨cv,rfl,v1,h1',N1,F1,φ1,hcov,hv,_,hG⟩:=he
 have hG:=hG.goes
 have own0:∀b,¬bR reg (fun _=>none) (lJ (S.aL a)).get b:=fun b ⟨i,o,s,k,_,hi⟩=>by cases hi
 have hcv:=(jV hv ((aK _ _).1 hcov).2.1).1
 refine⟨?_,⟨hG.os,hG.tape,hG.output,hG.size,fun b hb=>hG.block b hb (own0 b)⟩⟩
 cases hcv with
 | d _ _ hd =>
  cases hd with
  | bool=>rfl
  | emp _ hx=>cases hx
  | sl _ _ _ _ _ _ _ hx=>cases hx
end
end Go.W
namespace Go.W
open Go Go.RowKit
section
variable (reg:Reg)
def Ans.qEF(g:Nat→Option (O reg.T))(r:Ans)(v:V reg.T)(l:List Nat):List Nat:=match r with
 | .ptr _ ks=>(match qAi reg v g with | some (_,cs)=>qC (yT reg ks cs) l | none=>l)
 | r=>r.frz reg v l
def aJ.qEF(g:Nat→Option (O reg.T)):List Ans→List (V reg.T)→List Nat→List Nat
 | r::rs,v::vs,l=>aJ.qEF g rs vs (r.qEF reg g v l)
 | _,_,l=>l
def qIO(names:List Nat)(vs:List (V reg.T))(h:Hp reg.T):Out (List (V reg.T)×Hp reg.T):=match names with
 | []=>.ret (vs,h)
 | i::l=>(rE reg (List.range h.nx) (qHe h.get (i::l)) (.tup vs,h)).bind fun r=>(match r.1 with
  | .tup us=>.ret (us,r.2)
  | _=>.bad)
def rW{T:Nat→Type}:List Ans→List (V T)
 | []=>[]
 | .ptr j _::rs=>.ptr j 0 0::rW rs
 | _::rs=>rW rs
def qQM{T:Nat→Type}:V T→Option (List (V T))
 | .tup vs=>some vs
 | _=>none
def qKr{T:Nat→Type}(rs:List Ans)(v:V T):Option (List (V T)):=match rs with
 | [_]=>some [v]
 | _=>qQM v
def qIP{T:Nat→Type}(rs:List Ans)(us:List (V T)):V T:=match rs with
 | [_]=>us.headD .any
 | _=>.tup us
def qME(kr ku:List Ans)(q:V reg.T×Hp reg.T):DT (aJ reg kr×aJ reg ku):=match qKr kr q.1 with
 | none=>.bad
 | some vs=>DT.bI (qIO reg (aJ.qEF reg q.2.get kr vs (aJ.qEF reg q.2.get ku (rW ku) [])) vs q.2) fun q2=>(match aJ.read reg kr q2.1 q2.2.get,aJ.read reg ku (rW ku) q2.2.get with
  | some (b,x,ρ),some (b',y,ρ')=>(match bE (cZ (ρ++ρ'))&&bE ((ρ++ρ').map (·.1)) with | true=>wW (qFR b b') (.ret (x,y)) | false=>.bad)
  | _,_=>.bad)
def hpA(n:Nat)(ka:List Ans)(a:aJ reg ka):Hp reg.T:=⟨bD (aJ.aL reg ka a) .e,n,[]⟩
def okA(n:Nat)(ρ:Rho):Bool:=bE (cZ ρ)&&bE (ρ.map (·.1))&&((ρ.map (·.1)).all fun m=>Nat.blt m n)&&Nat.ble n 1000
def sgA(n nx:Nat)(ρ:Rho)(m:Nat):Nat:=match Nat.blt m n with
 | true=>(match aQ ρ m with | some (some i)=>i | _=>0)
 | false=>Nat.add nx (Nat.sub m n)
def qHj{α:Type}:Option (Option α)→Bool
 | some (some _)=>true
 | _=>false
def okL(n c:Nat)(ρ:Rho)(l:List Nat):Bool:=bE l&&l.all fun m=>(match Nat.blt m n with
 | true=>qHj (aQ ρ m)
 | false=>Nat.blt m (Nat.add n c))
def Ans.owns:Ans→List Nat
 | .one k=>k.names
 | .st ks=>ks.flatMap Kd.names
 | .ptr _ ks=>ks.flatMap Kd.names
def qHk:Ans→Bool
 | .ptr _ _=>true
 | _=>false
def okP(p n:Nat)(kr ku:List Ans):Bool:=(ku.flatMap Ans.names).all (fun m=>(match Nat.blt m n with | true=>Nat.blt m p | false=>true))&&ku.all qHk&&(kr.flatMap Ans.names).all (fun m=>Nat.ble n m)&&(ku.flatMap Ans.owns).all (fun m=>Nat.ble n m)
def tailA(p n c:Nat)(kr ku:List Ans)(h:Hp reg.T)(ρ:Rho)(x:aJ reg kr×aJ reg ku):Out (V reg.T×Hp reg.T) :=
 Out.ask (okL n c ρ (kr.flatMap Ans.names++ku.flatMap Ans.names)&&Tr.ok (Nat.add h.nx c)&&(cZ ρ).all Tr.ok&&okP p n kr ku) (.ret ((qIP kr (aJ.enc reg kr x.1)).ren (sgA n h.nx ρ),
  ⟨bD ((aJ.aL reg kr x.1++aJ.aL reg ku x.2).map fun p=>(sgA n h.nx ρ p.1,p.2.ren (sgA n h.nx ρ))) (dJ (cZ ρ) h.h),Nat.add h.nx c,cZ ρ++h.wr⟩))
def qHl{α:Type}(b:Ob)(o:Out α):Out α:=match b with
 | none=>o
 | some b=>.need b o
def xI(p n c:Nat)(ka kr ku:List Ans)(pre:aJ reg ka→Bool)(M:aJ reg ka→aJ reg kr×aJ reg ku)(args:List (V reg.T))(h:Hp reg.T):Out (V reg.T×Hp reg.T) :=
 (qIO reg (aJ.qEF reg h.get ka args []) args h).bind fun q=>(match aJ.read reg ka q.1 q.2.get with
  | some (b,a,ρ)=>Out.ask (okA n ρ) (qHl b (.need (pre a) (tailA reg p n c kr ku q.2 ρ (M a))))
  | none=>.bad)
def jA(p n c:Nat)(ka kr ku:List Ans)(pre:aJ reg ka→Bool)(M:aJ reg ka→aJ reg kr×aJ reg ku):CJ reg.T:=fun args h α k =>
 DT.bI (qIO reg (aJ.qEF reg h.get ka args []) args h) fun q=>(match aJ.read reg ka q.1 q.2.get with
  | some (b,a,ρ)=>(match okA n ρ with
   | true=>wW b (.need (pre a) (.join (σ:=aJ reg kr×aJ reg ku) (.ret (.inl (M a))) fun x=>DT.bI (tailA reg p n c kr ku q.2 ρ x) k))
   | false=>.bad)
  | none=>.bad)
def qAz{α:Type}(P:Program)(p:Nat)(ex:Nat→ExR reg.T)(fuel:Nat)(L J:Nat→St reg.T→Option (List Ld))(fn:Func)(args:List (V reg.T))(h:Hp reg.T)(k:V reg.T×Hp reg.T→DT α):DT α :=
 match fn.body with
 | none=>.bad
 | some c=>(match Nat.ble args.length fn.ntmps&&Nat.ble fn.ntmps 1000000&&Nat.ble p h.nx with
  | true=>trS vS (dP args 0 .e) fun env=>gD reg (ex fn.ntmps) fuel p L J c (fun r=>DT.bI (iW P fn r) k) ⟨env,h⟩
  | false=>.bad)
def qOm(P:Program)(f:FuncId)(p n:Nat)(ka kr ku:List Ans)(pre:aJ reg ka→Bool)(M:aJ reg ka→aJ reg kr×aJ reg ku):Prop :=
 There P f∧∀a,pre a=true→∀F φ w cargs,HR (fun j=>j<n) F φ (hpA reg n ka a) w→(∀i p,φ i=some p→∃o,(hpA reg n ka a).get i=some o)→eF F w φ (aJ.enc reg ka a) cargs →
  Calls P f cargs w fun e w'=>∃cv,e=.returned cv∧∃v hh N2 F2 φ2,(qME reg kr ku (v,hh)).G (M a)∧aA reg F2 w' φ2 v cv∧HR N2 F2 φ2 hh w'∧Goes reg F φ (fun j=>j<p) (hpA reg n ka a).get w F2 φ2 N2 hh.get w'
end
section
variable {reg:Reg} {P:Program}
open DT
theorem qCf{p:Nat}{ex:Nat→ExR reg.T}(hex:∀nt,nt≤1000000→rU P nt (ex nt)){fuel:Nat}{L J:Nat→St reg.T→Option (List Ld)}{f:FuncId}{fn:Func}(hfn:P.funcs[f]? = some fn){args:List (V reg.T)}{h:Hp reg.T}{α:Type}{k:V reg.T×Hp reg.T→DT α}{x:α}
  (hq:(qAz reg P p ex fuel L J fn args h k).G x) {F:Nat→Prop} {φ:Phi} {w:World} {cargs:Array Value} (hH:HR (fun i=>i<h.nx) F φ h w) (hφ:∀i p,φ i=some p→∃o,h.get i=some o) (hl:eF F w φ args cargs) :
  Calls P f cargs w fun e w'=>∃cv,e=.returned cv∧∃v hh N2 F2 φ2,(k (v,hh)).G x∧aA reg F2 w' φ2 v cv∧HR N2 F2 φ2 hh w'∧Goes reg F φ (fun j=>j<p) h.get w F2 φ2 N2 hh.get w':=by
 unfold qAz at hq
 split at hq
 ·exact hq.elim
 rename_i c hb
 split at hq
 ·rename_i hc
  rw[iD wU] at hq
  simp only[bu] at hc
  have hle:args.length≤fn.ntmps:=by simpa using hc.1.1
  have hnt:fn.ntmps≤1000000:=bz hc.1.2
  have hpn:p≤h.nx:=bz hc.2
  have hg0:Goes reg F φ (fun j=>j<p) h.get w F φ (fun i=>i<h.nx) h.get w:=by
   refine⟨rfl,rfl,rfl,dh _,fun _ _ _=>rfl,fun _ h=>h,fun _ h=>.inl h,fun _ _=>rfl,fun i hi=>gq hi hpn,fun _ h=>.inl h,fun i q hq=>?_⟩
   obtain⟨o,ho⟩:=hφ i q hq
   obtain⟨b,s,k⟩:=q
   exact .inr (.inr ⟨i,o,s,k,ho,hq⟩)
  refine calls_of_wp hfn hb (wp_mono (jI (n0:=p) (F0:=F) (φ0:=φ) (H0:=h.get) (w0:=w) (hex _ hnt) c _ _ x hq ⟨_,F,φ,fun i hi=>hi,nT hH hl hle hnt,hg0⟩) fun e a' w' he=>?_)
  have hfin:∀(r:aH×St reg.T) (Q:V reg.T×Hp reg.T→Prop),(iW P fn r).K Q→∃v,qBU P fn r.2=some v∧Q (v,r.2.hp)∧∀id,r.1≠.exit id:=by
   intro r Q hr
   obtain⟨e,st⟩:=r
   cases e with
   | normal=>obtain⟨v,h1,h2⟩:=eD hr;exact⟨v,h1,h2,fun id=>by simp⟩
   | ret=>obtain⟨v,h1,h2⟩:=eD hr;exact⟨v,h1,h2,fun id=>by simp⟩
   | exit id=>exact hr.elim
  have fin:∀(e':aH),iL p F φ h.get w fn.ntmps (defs c) ⟨dP args 0 .e,h⟩ (fun q=>DT.bI (iW P fn q) k) x e' a' w'→a'.defers=[]∧∃cv,(results fn a'.tmps).run P w' = .ok cv w' ∧
    (∃cv',Ending.returned cv=.returned cv'∧∃v hh N2 F2 φ2,(k (v,hh)).G x∧aA reg F2 w' φ2 v cv'∧HR N2 F2 φ2 hh w'∧Goes reg F φ (fun j=>j<p) h.get w F2 φ2 N2 hh.get w'):=by
   rintro e' ⟨st,hk,_,hgr,N,F',φ',hN,hR,hG⟩
   obtain⟨v,h4,h5,_⟩:=hfin _ _ (DT.dH hk)
   obtain⟨cv,h6,h7⟩:=jE hR h4
   exact⟨hR.dfs,cv,h6,cv,rfl,v,st.hp,N,F',φ',h5,h7,hR.heap,hG⟩
  cases e with
  | normal=>exact fin _ he
  | ret=>exact fin _ he
  | exit id =>
   obtain⟨st,hk,_⟩:=he
   obtain⟨_,_,_,h6⟩:=hfin _ _ (DT.dH hk)
   exact(h6 id rfl).elim
  | goto l=>exact he.elim
  | panic ch=>exact he.elim
  | outgrown=>exact he.elim
 ·exact hq.elim
theorem qKs{p:Nat}{ex:Nat→ExR reg.T}(hex:∀nt,nt≤1000000→rU P nt (ex nt)){fuel:Nat}{L J:Nat→St reg.T→Option (List Ld)}{f:FuncId}{fn:Func}(hfn:P.funcs[f]? = some fn)(ht:There P f){n:Nat}{ka kr ku:List Ans}{pre:aJ reg ka→Bool}{M:aJ reg ka→aJ reg kr×aJ reg ku}
  (h:∀a,pre a=true→(qAz reg P p ex fuel L J fn (aJ.enc reg ka a) (hpA reg n ka a) (qME reg kr ku)).G (M a)):qOm reg P f p n ka kr ku pre M :=
 ⟨ht,fun a hp _ _ _ _ hH hφ hl=>qCf hex hfn (h:=hpA reg n ka a) (h a hp) hH hφ hl⟩
theorem qHm{names:List Nat}{vs:List (V reg.T)}{h:Hp reg.T}{q:List (V reg.T)×Hp reg.T}(hK:(qIO reg names vs h).K (·= q)):h.nx≤q.2.nx∧∀N F φ w cargs,HR N F φ h w→eF F w φ vs cargs →
  ∃N' F' φ',eF F' w φ' q.1 cargs∧HR N' F' φ' q.2 w∧GO N F φ h w N' F' φ' q.2 w:=by
 unfold qIO at hK
 split at hK
 ·cases hK
  exact⟨dh _,fun N F φ w cargs hH hl=>⟨N,F,φ,hl,hH,GO.refl hH⟩⟩
 ·rw[Out.aU] at hK
  obtain⟨r,h1,h2⟩:=(Out.bP _ _).1 hK
  have ht:=nV (h0:=h) h1
  split at h2
  ·rename_i us hv
   cases h2
   refine⟨ht.1,fun N F φ w cargs hH hl=>?_⟩
   obtain⟨v2,h2',N',F',φ',e,hv',hH',hG⟩:=ht.2 N F φ w (.tuple cargs) w ⟨_,h,N,F,φ,rfl,.tup vs cargs hl.1 hl.2,hH,GO.refl hH⟩
   subst e
   have hv:v2=.tup us:=hv
   subst hv
   cases hv' with
   | tup _ _ hz hh=>exact⟨N',F',φ',⟨hz,hh⟩,hH',hG⟩
  ·exact h2.elim
theorem qIQ{rs:List Ans}{v:V reg.T}{vs:List (V reg.T)}(h:qKr rs v=some vs){F:Nat→Prop}{w:World}{φ:Phi}{cv:Value}(hv:aA reg F w φ v cv) :
  ∃cs,eF F w φ vs cs∧∀(F':Nat→Prop) (w':World) (φ':Phi) (us:List (V reg.T)),eF F' w' φ' us cs→aA reg F' w' φ' (qIP rs us) cv:=by
 have tup:(∀us:List (V reg.T),qIP rs us=.tup us)→qQM v=some vs→∃cs,eF F w φ vs cs∧∀(F':Nat→Prop) (w':World) (φ':Phi) (us:List (V reg.T)),eF F' w' φ' us cs→aA reg F' w' φ' (qIP rs us) cv:=by
  intro he hm
  cases hv with
  | tup us cs hz hh =>
   cases hm
   exact⟨cs,⟨hz,hh⟩,fun F' w' φ' us hl=>by rw[he];exact .tup _ cs hl.1 hl.2⟩
  | _=>cases hm
 match rs,h,tup with
 | [],h,tup=>exact tup (fun _=>rfl) h
 | [r],h,_ =>
  have h:[v]=vs:=ik h
  subst h
  refine⟨#[cv],⟨rfl,fun j hj=>?_⟩,fun F' w' φ' us hl=>?_⟩
  ·have: j=0:=by simpa using hj
   subst this;exact hv
  ·have h1:us.length=1:=hl.1
   match us,h1,hl.2 with
   | [u],_,hh=>exact hh 0 (by simp)
 | r::s::rs,h,tup=>exact tup (fun _=>rfl) h
def phR(ρ:Rho)(φ:Phi):Phi:=fun m=>match aQ ρ m with | some (some j)=>φ j | _=>none
theorem oF{ρ:Rho}{φ:Phi}(hn:bE (ρ.map (·.1))=true):Agree ρ φ (phR ρ φ):=by
 intro m o hm
 show(match aQ ρ m with | some (some j)=>φ j | _=>none)=_
 rw[iN hn hm]
 cases o<;>rfl
theorem gF{ρ:Rho}{φ:Phi}{m:Nat}{p:Nat×Nat×Nat×Nat}(h:phR ρ φ m=some p):∃j,(m,some j)∈ρ∧φ j=some p:=by
 have h:(match aQ ρ m with | some (some j)=>φ j | _=>none)=some p:=h
 split at h
 ·rename_i j hj;exact⟨j,fF hj,h⟩
 ·cases h
theorem qBz{α:Type}:∀{l:List (Nat×α)} {t:Tr α},(∀q∈l,Tr.ok q.1=true)→∀{i:Nat},i∈l.map (·.1)→∃x,(bD l t).get i=some x
 | [],t,_,i,h=>by cases h
 | (j,x)::l,t,hk,i,h=>by
  simp only[bD]
  rw[Tr.dG (hk (j,x) (by simp))]
  by_cases e:i=j
  ·exact⟨x,by rw[if_pos e]⟩
  ·rw[if_neg e]
   refine qBz (fun q hq=>hk q (by simp[hq])) ?_
   simpa [e] using h
theorem qIR{n:Nat}{ρ:Rho}{aL:List (Nat×O reg.T)}{N F:Nat→Prop}{φ:Phi}{h:Hp reg.T}{w:World}(hH:HR N F φ h w)(hkeys:aL.map (·.1)=ρ.map (·.1))(hobj:∀i ob,(i,ob)∈aL→∃o,(i,o)∈ρ∧lN ρ h.get i o ob)
  (hsm:bE (cZ ρ)=true) (hky:bE (ρ.map (·.1))=true) (hlt:∀m∈ρ.map (·.1),m<n) (hn:n≤1000) :
  HR (fun j=>j<n) F (phR ρ φ) ⟨bD aL .e,n,[]⟩ w∧(∀m j,(m,some j)∈ρ→∃u,h.get j=some u)∧∀i p,phR ρ φ i=some p→∃o,(⟨bD aL .e,n,[]⟩:Hp reg.T).get i=some o:=by
 have hag:=oF (φ:=φ) hky
 have hmem:∀j o,(bD aL Tr.e).get j=some o→(j,o)∈aL:=by
  intro j o hj
  have hok:∀p∈aL,Tr.ok p.1=true:=by
   intro p hp
   have: p.1∈ρ.map (·.1):=hkeys▸fq.2 ⟨p,hp,rfl⟩
   have:= hlt _ this
   simp[Tr.ok];omega
  rcases iC hok hj with h | h
  ·exact h
  ·rw[Tr.qG7] at h;cases h
 have hobj2:∀m j,(m,some j)∈ρ→∃u,h.get j=some u:=by
  intro m j hm
  have h1:m∈aL.map (·.1):=hkeys▸fq.2 ⟨_,hm,rfl⟩
  obtain⟨⟨m',ob⟩,h2,rfl⟩:=fq.1 h1
  obtain⟨oo,h3,h4⟩:=hobj _ _ h2
  have e1:=iN hky hm
  have e2:=iN hky h3
  rw[e1] at e2
  cases ik e2
  obtain⟨u,h5,_⟩:=h4
  exact⟨u,h5⟩
 refine⟨⟨fun j o hj=>?_,fun j o b s k hj hp=>?_,fun j j' oj oj' b s k s' k' hj hj' hp hp'=>?_,fun j p hp=>?_,fun j o hj=>?_,fun j hj=>?_,hH.frz,hH.lay⟩,hobj2,fun i p hp=>?_⟩
 ·obtain⟨oo,h1,h2⟩:=hobj j o (hmem j o hj)
  cases oo with
  | none =>
   obtain⟨e,rfl⟩:=h2
   exact .inl ⟨rfl,.inl ⟨rfl,hag j none h1⟩⟩
  | some j' =>
   obtain⟨u,h3,h4⟩:=h2
   exact h4 F w φ _ hag (hag j (some j') h1) (hH.obj j' u h3)
 ·obtain⟨j',h1,h2⟩:=gF hp
  obtain⟨u,h3⟩:=hobj2 j j' h1
  exact hH.own j' u b s k h3 h2
 ·obtain⟨i,h1,h2⟩:=gF hp
  obtain⟨i',h1',h2'⟩:=gF hp'
  obtain⟨u,h3⟩:=hobj2 j i h1
  obtain⟨u',h3'⟩:=hobj2 j' i' h1'
  have:= hH.inj i i' u u' b s k s' k' h3 h3' h2 h2'
  subst this
  exact kW hsm h1 h1'
 ·obtain⟨j',h1,_⟩:=gF hp
  exact hlt j (fq.2 ⟨_,h1,rfl⟩)
 ·exact hlt j (hkeys▸fq.2 ⟨_,hmem j o hj,rfl⟩)
 ·have hj:j<n:=hj
  simp[Tr.ok];omega
 ·obtain⟨j,h1,_⟩:=gF hp
  have h2:i∈aL.map (·.1):=hkeys▸fq.2 ⟨_,h1,rfl⟩
  exact qBz (fun q hq=>by
   have: q.1∈ρ.map (·.1):=hkeys▸fq.2 ⟨q,hq,rfl⟩
   have:= hlt _ this
   simp[Tr.ok];omega) h2
theorem qHn{n nx m:Nat}{ρ:Rho}(h:n≤m):sgA n nx ρ m=nx+(m-n):=by
 unfold sgA
 have: Nat.blt m n=false:=by
  cases hb:Nat.blt m n with
  | false=>rfl
  | true=>have:= bz hb;omega
 rw[this];rfl
theorem qHo{n nx m i:Nat}{ρ:Rho}(h:m<n)(hl:aQ ρ m=some (some i)):sgA n nx ρ m=i:=by
 unfold sgA
 have: Nat.blt m n=true:=fw h
 rw[this,hl]
theorem qIS{p n c:Nat}{ρ R:Rho}{N1 F1 N3 F3:Nat→Prop}{φ1 φ3:Phi}{h1 h3:Hp reg.T}{hc:Hp reg.T}{w w':World}{objsR:List (Nat×O reg.T)}(hH1:HR N1 F1 φ1 h1 w)(hobj2:∀m j,(m,some j)∈ρ→∃u,h1.get j=some u)
  (hcan:∀b,bR reg (phR ρ φ1) hc.get b→∃m j s,(m,some j)∈ρ∧φ1 j=some (b,s)) (hky:bE (ρ.map (·.1))=true) (hfr:bX N1 h1.nx (h1.nx+c)) (hGc:Goes reg F1 (phR ρ φ1) (fun j=>j<p) hc.get w F3 φ3 N3 h3.get w') (hH3:HR N3 F3 φ3 h3 w')
  (hsR:bE (cZ R)=true) (hkR:bE (R.map (·.1))=true) (hkeys:objsR.map (·.1)=R.map (·.1)) (hobj:∀i ob,(i,ob)∈objsR→∃o,(i,o)∈R∧lN R h3.get i o ob)
  (hptr:∀m o,(m,o)∈R→m<n→o=some m) (hpp:∀m∈R.map (·.1),m<n→m<p) (hold:∀m∈R.map (·.1),m<n→∃i,aQ ρ m=some (some i)) (hnew:∀m∈R.map (·.1),n≤m→m<n+c) (hok:Tr.ok (h1.nx+c)=true) (hos:∀i∈cZ ρ,Tr.ok i=true) :
  ∃N4 φ4,HR N4 F3 φ4 ⟨bD (objsR.map fun p=>(sgA n h1.nx ρ p.1,p.2.ren (sgA n h1.nx ρ))) (dJ (cZ ρ) h1.h),h1.nx+c,cZ ρ++h1.wr⟩ w' ∧
   GO N1 F1 φ1 h1 w N4 F3 φ4 ⟨bD (objsR.map fun p=>(sgA n h1.nx ρ p.1,p.2.ren (sgA n h1.nx ρ))) (dJ (cZ ρ) h1.h),h1.nx+c,cZ ρ++h1.wr⟩ w'∧∀m∈R.map (·.1),φ4 (sgA n h1.nx ρ m)=phR R φ3 m:=by
 let φ4:Phi:=fun i=>if h1.nx≤i∧i<h1.nx+c then phR R φ3 (n+(i-h1.nx)) else φ1 i
 let N4:Nat→Prop:=fun i=>N1 i∨(h1.nx≤i∧i<h1.nx+c)
 have hag:=oF (φ:=φ3) hkR
 have e4:∀i,N1 i→φ4 i=φ1 i:=fun i hi=>if_neg fun⟨a,b⟩=>hfr i a b hi
 have e4p:∀i p,φ1 i=some p→φ4 i=some p:=fun i p hp=>(e4 i (hH1.dom i p hp)).trans hp
 have hsome:∀m i,aQ ρ m=some (some i)→(m,some i)∈ρ:=fun m i h=>fF h
 have hobjR:∀m j,(m,some j)∈R→∃u,h3.get j=some u:=by
  intro m j hm
  have h1:m∈objsR.map (·.1):=hkeys▸fq.2 ⟨_,hm,rfl⟩
  obtain⟨⟨m',ob⟩,h2,rfl⟩:=fq.1 h1
  obtain⟨oo,h3',h4⟩:=hobj _ _ h2
  have e1:=iN hkR hm
  have e2:=iN hkR h3'
  rw[e1] at e2
  cases ik e2
  obtain⟨u,h5,_⟩:=h4
  exact⟨u,h5⟩
 have hσ:∀m∈R.map (·.1),φ4 (sgA n h1.nx ρ m)=phR R φ3 m:=by
  intro m hm
  by_cases hmn:m<n
  ·obtain⟨i,hi⟩:=hold m hm hmn
   rw[qHo hmn hi]
   obtain⟨⟨m',o⟩,h2,rfl⟩:=fq.1 hm
   have ho:=hptr _ _ h2 hmn
   subst ho
   obtain⟨u,hu⟩:=hobj2 _ _ (hsome _ _ hi)
   rw[e4 i (hH1.lt i u hu)]
   have h5:phR R φ3 m' = φ3 m':=hag _ _ h2
   rw[h5]
   have h6:φ3 m' = phR ρ φ1 m':=hGc.phi m' (hpp m' hm hmn)
   have h7:phR ρ φ1 m' = φ1 i:=oF hky _ _ (hsome _ _ hi)
   rw[h6,h7]
  ·have h5:=hnew m hm (by omega)
   rw[qHn (by omega)]
   show(if h1.nx≤h1.nx+(m-n)∧h1.nx+(m-n)<h1.nx+c then phR R φ3 (n+(h1.nx+(m-n)-h1.nx)) else φ1 _)=_
   rw[if_pos ⟨by omega,by omega⟩,show n+(h1.nx+(m-n)-h1.nx)=m by omega]
 have hσin:∀m∈R.map (·.1),(sgA n h1.nx ρ m∈cZ ρ∧N1 (sgA n h1.nx ρ m))∨(h1.nx≤sgA n h1.nx ρ m∧sgA n h1.nx ρ m<h1.nx+c):=by
  intro m hm
  by_cases hmn:m<n
  ·obtain⟨i,hi⟩:=hold m hm hmn
   rw[qHo hmn hi]
   obtain⟨u,hu⟩:=hobj2 _ _ (hsome _ _ hi)
   exact .inl ⟨kU (hsome _ _ hi),hH1.lt i u hu⟩
  ·have h5:=hnew m hm (by omega)
   rw[qHn (by omega)]
   exact .inr ⟨by omega,by omega⟩
 have hnxok:h1.nx+c<9223372036854775807:=by simpa [Tr.ok] using hok
 have hkok:∀p∈objsR.map (fun p=>(sgA n h1.nx ρ p.1,p.2.ren (sgA n h1.nx ρ))),Tr.ok p.1=true:=by
  intro p hp
  obtain⟨⟨m,ob⟩,hm,rfl⟩:=fq.1 hp
  rcases hσin m (hkeys▸fq.2 ⟨_,hm,rfl⟩) with h | h
  ·exact hos _ h.1
  ·have h:=h.2
   simp[Tr.ok];omega
 have hget:∀i o,(bD (objsR.map fun p=>(sgA n h1.nx ρ p.1,p.2.ren (sgA n h1.nx ρ))) (dJ (cZ ρ) h1.h)).get i=some o→(∃m ob,(m,ob)∈objsR∧i=sgA n h1.nx ρ m∧o=ob.ren (sgA n h1.nx ρ))∨(i ∉ cZ ρ∧h1.get i=some o):=by
  intro i o hi
  rcases iC hkok hi with h | h
  ·obtain⟨⟨m,ob⟩,hm,e⟩:=fq.1 h
   simp only[dx] at e
   exact .inl ⟨m,ob,hm,e.1.symm,e.2.symm⟩
  ·rw[dE hos] at h
   split at h
   ·cases h
   ·rename_i hn;exact .inr ⟨hn,h⟩
 have horel:∀m ob,(m,ob)∈objsR→eZ reg F3 w' (phR R φ3) m ob:=by
  intro m ob hm
  obtain⟨oo,h5,h6⟩:=hobj m ob hm
  cases oo with
  | none =>
   obtain⟨e,rfl⟩:=h6
   exact .inl ⟨rfl,.inl ⟨rfl,hag m none h5⟩⟩
  | some j =>
   obtain⟨u,h7,h8⟩:=h6
   exact h8 F3 w' φ3 _ hag (hag m (some j) h5) (hH3.obj j u h7)
 have hcanF:∀b,bR reg (phR ρ φ1) hc.get b→¬F1 b:=by
  intro b hb
  obtain⟨m,j,⟨s,k⟩,h5,h6⟩:=hcan b hb
  obtain⟨u,hu⟩:=hobj2 m j h5
  exact(hH1.own j u b s k hu h6).1
 have hcanO:∀b,bR reg (phR ρ φ1) hc.get b→bR reg φ1 h1.get b:=by
  intro b hb
  obtain⟨m,j,⟨s,k⟩,h5,h6⟩:=hcan b hb
  obtain⟨u,hu⟩:=hobj2 m j h5
  exact⟨j,u,s,k,hu,h6⟩
 have hoth:∀i o b s k,i ∉ cZ ρ→h1.get i=some o→φ1 i=some (b,s,k)→b<w.heap.size∧¬bR reg (phR ρ φ1) hc.get b:=by
  intro i o b s k hi ho hp
  refine⟨(hH1.own i o b s k ho hp).2,fun hb=>?_⟩
  obtain⟨m,j,⟨s',k'⟩,h5,h6⟩:=hcan b hb
  obtain⟨u,hu⟩:=hobj2 m j h5
  have:= hH1.inj i j o u b s k s' k' ho hu hp h6
  subst this
  exact hi (kU h5)
 have hF:∀b,F1 b→F3 b∧w'.heap[b]? = w.heap[b]?:=fun b hb=>⟨hGc.fsub b hb,hGc.block b (hH1.frz b hb) fun ho=>hcanF b ho hb⟩
 have hown3:∀m∈R.map (·.1),∀p,φ4 (sgA n h1.nx ρ m)=some p→∃j u,(m,some j)∈R∧φ3 j=some p∧h3.get j=some u:=by
  intro m hm p hp
  rw[hσ m hm] at hp
  obtain⟨j,h5,h6⟩:=gF hp
  obtain⟨u,hu⟩:=hobjR m j h5
  exact⟨j,u,h5,h6,hu⟩
 have hmemk:∀m ob,(m,ob)∈objsR→m∈R.map (·.1):=fun m ob h=>hkeys▸fq.2 ⟨_,h,rfl⟩
 refine⟨N4,φ4,?_,?_,hσ⟩
 ·refine⟨fun i o hi=>?_,fun i o b s k hi hp=>?_,fun i i' o o' b s k s' k' hi hi' hp hp'=>?_,fun i p hp=>?_,fun i o hi=>?_,fun i hi=>?_,hH3.frz,hH3.lay⟩
  ·rcases hget i o hi with⟨m,ob,hm,rfl,rfl⟩ | ⟨hn,ho⟩
   ·have hmk:=hmemk m ob hm
    refine qEx (fun m' p hp=>?_) (fun hn=>(hσ m hmk).trans hn) (horel m ob hm)
    obtain⟨j,h5,h6⟩:=gF hp
    exact(hσ m' (fq.2 ⟨_,h5,rfl⟩)).trans hp
   ·exact eZ.mono reg hF e4p (fun h=>(e4 i (hH1.lt i o ho)).trans h) (fun b s k hp=>by
     obtain⟨h5,h6⟩:=hoth i o b s k hn ho hp
     exact hGc.block b h5 h6) (hH1.obj i o ho)
  ·rcases hget i o hi with⟨m,ob,hm,rfl,rfl⟩ | ⟨hn,ho⟩
   ·obtain⟨j,u,h5,h6,h7⟩:=hown3 m (hmemk m ob hm) _ hp
    exact hH3.own j u b s k h7 h6
   ·rw[e4 i (hH1.lt i o ho)] at hp
    obtain⟨h5,h6⟩:=hoth i o b s k hn ho hp
    refine⟨fun hb=>?_,gq h5 hGc.size⟩
    rcases hGc.fnew b hb with h7 | h7 | h7
    ·exact(hH1.own i o b s k ho hp).1 h7
    ·omega
    ·exact h6 h7
  ·have hx:∀(m:Nat) (ob:O reg.T) (i:Nat) (o:O reg.T) (s k s' k'),(m,ob)∈objsR→φ4 (sgA n h1.nx ρ m)=some (b,s,k)→i ∉ cZ ρ→h1.get i=some o→φ4 i=some (b,s',k')→False:=by
    intro m ob i o s k s' k' hm hp hn ho hp'
    obtain⟨j,u,h5,h6,h7⟩:=hown3 m (hmemk m ob hm) _ hp
    rw[e4 i (hH1.lt i o ho)] at hp'
    obtain⟨h8,h9⟩:=hoth i o b s' k' hn ho hp'
    rcases hGc.dom b ⟨j,u,s,k,h7,h6⟩ with h | h
    ·exact h9 h
    ·omega
   rcases hget i o hi with⟨m,ob,hm,rfl,rfl⟩ | ⟨hn,ho⟩
   ·rcases hget i' o' hi' with⟨m',ob',hm',rfl,rfl⟩ | ⟨hn',ho'⟩
    ·obtain⟨j,u,h5,h6,h7⟩:=hown3 m (hmemk m ob hm) _ hp
     obtain⟨j',u',h5',h6',h7'⟩:=hown3 m' (hmemk m' ob' hm') _ hp'
     have:= hH3.inj j j' u u' b s k s' k' h7 h7' h6 h6'
     subst this
     rw[kW hsR h5 h5']
    ·exact(hx m ob i' o' s k s' k' hm hp hn' ho' hp').elim
   ·rcases hget i' o' hi' with⟨m',ob',hm',rfl,rfl⟩ | ⟨hn',ho'⟩
    ·exact(hx m' ob' i o s' k' s k hm' hp' hn ho hp).elim
    ·rw[e4 i (hH1.lt i o ho)] at hp
     rw[e4 i' (hH1.lt i' o' ho')] at hp'
     exact hH1.inj i i' o o' b s k s' k' ho ho' hp hp'
  ·by_cases hr:h1.nx≤i∧i<h1.nx+c
   ·exact .inr hr
   ·have hp:(if h1.nx≤i∧i<h1.nx+c then phR R φ3 (n+(i-h1.nx)) else φ1 i)=some p:=hp
    rw[if_neg hr] at hp
    exact .inl (hH1.dom i p hp)
  ·rcases hget i o hi with⟨m,ob,hm,rfl,rfl⟩ | ⟨hn,ho⟩
   ·rcases hσin m (hmemk m ob hm) with h | h
    ·exact .inl h.2
    ·exact .inr h
   ·exact .inl (hH1.lt i o ho)
  ·rcases hi with hi | hi
   ·exact hH1.ok i hi
   ·have hi:=hi.2
    simp[Tr.ok];omega
 ·refine⟨⟨hGc.os,hGc.tape,hGc.output,hGc.size,fun b hb hn=>hGc.block b hb fun ho=>hn (hcanO b ho),hGc.fsub,fun b hb=>?_,e4,fun i hi=>.inl hi,fun b hb=>?_,fun i p hp=>?_⟩,⟨Nat.le_add_right _ _,cZ ρ,rfl,fun i hi hr=>?_⟩,fun i hi=>hi⟩
  ·rcases hGc.fnew b hb with h | h | h
   ·exact .inl h
   ·exact .inr (.inl h)
   ·exact .inr (.inr (hcanO b h))
  ·obtain⟨i,o,s,k,hi,hp⟩:=hb
   rcases hget i o hi with⟨m,ob,hm,rfl,rfl⟩ | ⟨hn,ho⟩
   ·obtain⟨j,u,h5,h6,h7⟩:=hown3 m (hmemk m ob hm) _ hp
    rcases hGc.dom b ⟨j,u,s,k,h7,h6⟩ with h | h
    ·exact .inl (hcanO b h)
    ·exact .inr h
   ·rw[e4 i (hH1.lt i o ho)] at hp
    exact .inl ⟨i,o,s,k,ho,hp⟩
  ·by_cases hr:h1.nx≤i∧i<h1.nx+c
   ·have hp:(if h1.nx≤i∧i<h1.nx+c then phR R φ3 (n+(i-h1.nx)) else φ1 i)=some p:=hp
    rw[if_pos hr] at hp
    obtain⟨j,h5,h6⟩:=gF hp
    rcases hGc.new j p h6 with h | h | h
    ·have h7:φ3 j=phR ρ φ1 j:=hGc.phi j h
     rw[h6] at h7
     obtain⟨j',h8,h9⟩:=gF h7.symm
     obtain⟨u,hu⟩:=hobj2 j j' h8
     obtain⟨b,s,k⟩:=p
     exact .inr (.inr ⟨j',u,s,k,hu,h9⟩)
    ·exact .inr (.inl h)
    ·exact .inr (.inr (hcanO _ h))
   ·have hp:(if h1.nx≤i∧i<h1.nx+c then phR R φ3 (n+(i-h1.nx)) else φ1 i)=some p:=hp
    rw[if_neg hr] at hp
    exact .inl (hH1.dom i p hp)
  ·have hr:¬(h1.nx≤i∧i<h1.nx+c):=hr
   show(bD (objsR.map fun p=>(sgA n h1.nx ρ p.1,p.2.ren (sgA n h1.nx ρ))) (dJ (cZ ρ) h1.h)).get i=h1.get i
   rw[vI hkok (fun p hp=>?_),dE hos,if_neg hi]
   ·rfl
   ·obtain⟨⟨m,ob⟩,hm,rfl⟩:=fq.1 hp
    intro e
    have e:sgA n h1.nx ρ m=i:=e
    rcases hσin m (hmemk m ob hm) with h | h
    ·exact hi (e▸h.1)
    ·exact hr (e▸h)
theorem qIT{α:Type}{b:Ob}{o:Out α}{Q:α→Prop}(h:(qHl b o).K Q):okO b=true∧o.K Q:=by
 cases b with
 | none=>exact⟨rfl,h⟩
 | some b=>exact Out.aO.1 h
theorem qEG:∀{ku:List Ans} {g:Nat→Option (O reg.T)} {y:aJ reg ku} {ρ:Rho} {b:Ob},ku.all qHk=true→okO b=true→aJ.read reg ku (rW ku) g=some (b,y,ρ)→∀m o,(m,o)∈ρ→m∈ku.flatMap Ans.owns∨o=some m
 | [],g,y,ρ,b,_,_,h,m,o,hm=>by
  simp only[aJ.read,rW] at h
  cases h
  cases hm
 | .one k::ku,g,y,ρ,b,hk,_,h,m,o,hm=>by simp[qHk] at hk
 | .st ks::ku,g,y,ρ,b,hk,_,h,m,o,hm=>by simp[qHk] at hk
 | .ptr j ks::ku,g,y,ρ,b,hk,hb,h,m,o,hm=>by
  simp only[aJ.read,rW] at h
  split at h
  ·rename_i b1 x1 ρ1 b2 y2 ρ2 e1 e2
   simp only[cu,dx] at h
   obtain⟨rfl,_,rfl⟩:=h
   obtain⟨hb1,hb2⟩:=wV hb
   rcases dw.1 hm with hm | hm
   ·have e1:(match qAi reg (.ptr j 0 0) g with
     | some (i,cs)=>(match jG reg ks cs g with | some (b,x,l)=>some (b,x,(j,some i)::l) | none=>none)
     | none=>none)=some (b1,x1,ρ1):=e1
    cases ho:qAi reg (.ptr j 0 0) g with
    | none=>rw[ho] at e1;cases e1
    | some q =>
     obtain⟨i,cs⟩:=q
     obtain⟨hi,k,hg⟩:=qEC reg ho
     cases hi
     rw[ho] at e1
     simp only at e1
     cases hr:jG reg ks cs g with
     | none=>rw[hr] at e1;cases e1
     | some q =>
      obtain⟨b',y',l⟩:=q
      rw[hr] at e1
      have e2':b' = b1:=congrArg (fun q:Ob×Cs reg ks×Rho=>q.1) (ik e1)
      have e3:(j,some j)::l=ρ1:=congrArg (fun q:Ob×Cs reg ks×Rho=>q.2.2) (ik e1)
      subst e3 e2'
      rcases fu.1 hm with e | hm
      ·cases e;exact .inr rfl
      ·left
       have h0:l.map (·.1)=ks.flatMap Kd.names:=(jH hr hb1).1
       have h1:m∈ks.flatMap Kd.names:=h0▸fq.2 ⟨(m,o),hm,rfl⟩
       simp only[ib,dw]
       exact .inl h1
   ·rcases qEG (by simp at hk ⊢;exact hk.2) hb2 e2 m o hm with h | h
    ·left;simp only[ib,dw];exact .inr h
    ·exact .inr h
  ·cases h
theorem qMF{f:FuncId}{p n c:Nat}{ka kr ku:List Ans}{pre:aJ reg ka→Bool}{M:aJ reg ka→aJ reg kr×aJ reg ku}(hS:qOm reg P f p n ka kr ku pre M):∀args h Q,(xI reg p n c ka kr ku pre M args h).K Q →
  There P f∧∀N F φ w cargs,(∀r,Q r→bX N h.nx r.2.nx)→HR N F φ h w→eF F w φ args cargs→Calls P f cargs w (bY N F φ h w Q):=by
 intro args h Q hq
 unfold xI at hq
 rw[Out.aU] at hq
 obtain⟨q,h1,h2⟩:=(Out.bP _ _).1 hq
 cases hr:aJ.read reg ka q.1 q.2.get with
 | none=>rw[hr] at h2;exact h2.elim
 | some t =>
 obtain⟨b,a,ρ⟩:=t
 rw[hr] at h2
 simp only at h2
 obtain⟨hok,h2⟩:=Out.bG.1 h2
 obtain⟨hb,h2⟩:=qIT h2
 obtain⟨hp,h2⟩:=Out.aO.1 h2
 unfold tailA at h2
 obtain⟨hL,hQ⟩:=Out.bG.1 h2
 unfold okA at hok
 simp only[bu,ek] at hok hL
 obtain⟨⟨⟨hsm,hky⟩,hlt⟩,hn⟩:=hok
 obtain⟨⟨⟨hL,hnx'⟩,hos⟩,hP⟩:=hL
 have hn:n≤1000:=bz hn
 have hlt:∀m∈ρ.map (·.1),m<n:=fun m hm=>bz (hlt m hm)
 unfold okL at hL
 simp only[bu,ek] at hL
 obtain⟨_,hL⟩:=hL
 unfold okP at hP
 simp only[bu,ek] at hP
 obtain⟨⟨⟨hP0,hP1⟩,hP2⟩,hP3⟩:=hP
 refine⟨hS.1,fun N F φ w cargs hfr hH hl=>?_⟩
 obtain⟨hnx,ht⟩:=qHm h1
 obtain⟨N1,F1,φ1,hl1,hH1,hG1⟩:=ht N F φ w cargs hH hl
 obtain⟨hnames,hlen,hval,hobj⟩:=aJ.dU hr hb
 have hkeys:(aJ.aL reg ka a).map (·.1)=ρ.map (·.1):=aJ.aZ.trans hnames.symm
 obtain⟨hHc,hobj2,hall⟩:=qIR hH1 hkeys hobj hsm hky hlt hn
 have hlc:eF F1 w (phR ρ φ1) (aJ.enc reg ka a) cargs:=⟨hlen.trans hl1.1,fun j hj=>hval F1 w φ1 _ (oF hky) j _ (by omega) (hl1.2 j (by omega))⟩
 refine(hS.2 a hp F1 _ w cargs hHc hall hlc).mono fun e w' he=>?_
 obtain⟨cv,he,v,hh,N2,F2,φ2,hret,hv,hH2,hG2⟩:=he
 refine⟨cv,he,?_⟩
 unfold qME at hret
 cases hvs:qKr kr v with
 | none=>simp only[hvs] at hret;exact hret.elim
 | some vs =>
 simp only[hvs] at hret
 obtain⟨q3,hK3,hret⟩:=(Out.bP _ _).1 (dH hret)
 obtain⟨cs,hcs,hback⟩:=qIQ hvs hv
 obtain⟨_,ht3⟩:=qHm hK3
 obtain⟨N3,F3,φ3,hl3,hH3,hG3⟩:=ht3 N2 F2 φ2 w' cs hH2 hcs
 cases e1:aJ.read reg kr q3.1 q3.2.get with
 | none=>simp only[e1] at hret;exact hret.elim
 | some t1 =>
 cases e2:aJ.read reg ku (rW ku) q3.2.get with
 | none=>simp only[e1,e2] at hret;exact hret.elim
 | some t2 =>
 obtain⟨b1,x,ρ1⟩:=t1
 obtain⟨b2,y,ρ2⟩:=t2
 simp only[e1,e2] at hret
 cases hnd:(bE (cZ (ρ1++ρ2))&&bE ((ρ1++ρ2).map (·.1))) with
 | false=>simp only[hnd] at hret;exact hret.elim
 | true =>
 simp only[hnd] at hret
 simp only[bu] at hnd
 obtain⟨hbb,hret⟩:=kN hret
 have hret:(x,y)=M a:=hret
 obtain⟨hb1,hb2⟩:=wV hbb
 obtain⟨n1,len1,val1,obj1⟩:=aJ.dU e1 hb1
 obtain⟨n2,len2,val2,obj2⟩:=aJ.dU e2 hb2
 have s1:∀p∈ρ1,p∈ρ1++ρ2:=fun p hp=>qj _ hp
 have s2:∀p∈ρ2,p∈ρ1++ρ2:=fun p hp=>nz _ hp
 have hnm:(ρ1++ρ2).map (·.1)=kr.flatMap Ans.names++ku.flatMap Ans.names:=by rw[kg,n1,n2]
 have hGc:=hG2.trans reg hG3.goes
 obtain⟨N4,φ4,hH4,hG4,hσ⟩:=qIS (p:=p) (n:=n) (c:=c) (ρ:=ρ) (R:=ρ1++ρ2) (objsR:=aJ.aL reg kr x++aJ.aL reg ku y) hH1 hobj2 (fun b hb=>by
   obtain⟨i,o,s,k,_,hp⟩:=hb
   obtain⟨j,h5,h6⟩:=gF hp
   exact⟨i,j,(s,k),h5,h6⟩) hky (fun i ha hb' hN=>by
   rcases hG1.names i hN with h5 | h5
   ·exact hfr _ hQ i (by omega) (by show i<q.2.nx+c;omega) h5
   ·omega) hGc hH3 hnd.1 hnd.2 (by rw[hnm,kg,aJ.aZ,aJ.aZ]) (fun i ob hi=>by
   rcases dw.1 hi with hi | hi
   ·obtain⟨o,d1,d2⟩:=obj1 i ob hi;exact⟨o,s1 _ d1,d2.sub s1⟩
   ·obtain⟨o,d1,d2⟩:=obj2 i ob hi;exact⟨o,s2 _ d1,d2.sub s2⟩) (fun m o hm hmn=>by
   rcases dw.1 hm with hm | hm
   ·have h5:m∈kr.flatMap Ans.names:=n1▸fq.2 ⟨(m,o),hm,rfl⟩
    have:= bz (hP2 m h5)
    omega
   ·rcases qEG (ek.2 hP1) hb2 e2 m o hm with h5 | h5
    ·have:= bz (hP3 m h5)
     omega
    ·exact h5) (fun m hm hmn=>by
   have h5:m∈kr.flatMap Ans.names++ku.flatMap Ans.names:=hnm▸hm
   rcases dw.1 h5 with h5 | h5
   ·have:= bz (hP2 m h5)
    omega
   ·have h6:=hP0 m h5
    rw[show Nat.blt m n=true from fw hmn] at h6
    exact bz h6) (fun m hm hmn=>by
   have h5:=hL m (hnm▸hm)
   rw[show Nat.blt m n=true from fw hmn] at h5
   simp only at h5
   unfold qHj at h5
   split at h5
   ·rename_i i hi;exact⟨i,hi⟩
   ·cases h5) (fun m hm hmn=>by
   have h5:=hL m (hnm▸hm)
   have h6:Nat.blt m n=false:=by
    cases hb:Nat.blt m n with
    | false=>rfl
    | true=>have:= bz hb;omega
   rw[h6] at h5
   exact bz h5) hnx' hos
 have hvx:aA reg F3 w' (phR (ρ1++ρ2) φ3) (qIP kr (aJ.enc reg kr x)) cv:=hback F3 w' _ _ ⟨len1.trans hl3.1,fun j hj=>val1 F3 w' φ3 _ ((oF hnd.2).sub s1) j _ (by omega) (hl3.2 j (by omega))⟩
 have hvy:aA reg F3 w' φ4 ((qIP kr (aJ.enc reg kr x)).ren (sgA n q.2.nx ρ)) cv:=wT (fun m p hp=>by
  obtain⟨j,h5,h6⟩:=gF hp
  exact(hσ m (fq.2 ⟨_,h5,rfl⟩)).trans hp) hvx
 rw[←hret] at hQ
 exact⟨_,_,N4,F3,φ4,hQ,hvy,hH4,hG1.trans hG4⟩
theorem qOZ{p n c:Nat}{ka kr ku:List Ans}{pre:aJ reg ka→Bool}{M:aJ reg ka→aJ reg kr×aJ reg ku}(args:List (V reg.T))(h:Hp reg.T):dL (jA reg p n c ka kr ku pre M args h):=by
 refine eU (t:=fun α k=>bI (qIO reg (aJ.qEF reg h.get ka args []) args h) k) (dC _) fun q=>?_
 cases hr:aJ.read reg ka q.1 q.2.get with
 | none=>simp only[hr];exact bF
 | some t =>
  obtain⟨b,a,ρ⟩:=t
  cases ho:okA n ρ with
  | false=>simp only[hr,ho];exact bF
  | true =>
   simp only[hr,ho]
   exact qCF b (xD _ (xE (lU (M a)) fun x=>dC _))
theorem qS2{p n c:Nat}{ka kr ku:List Ans}{pre:aJ reg ka→Bool}{M:aJ reg ka→aJ reg kr×aJ reg ku}{args:List (V reg.T)}{h:Hp reg.T}{α:Type}{k:V reg.T×Hp reg.T→DT α}{x:α}(hq:(jA reg p n c ka kr ku pre M args h α k).G x):(xI reg p n c ka kr ku pre M args h).K fun r=>(k r).G x:=by
 unfold xI
 rw[Out.aU]
 refine Out.bN (bU.1 hq) fun q hq=>?_
 cases hr:aJ.read reg ka q.1 q.2.get with
 | none=>simp only[hr] at hq;exact hq.elim
 | some t =>
  obtain⟨b,a,ρ⟩:=t
  simp only[hr] at hq ⊢
  cases ho:okA n ρ with
  | false=>simp only[ho] at hq;exact hq.elim
  | true =>
   simp only[ho] at hq
   obtain⟨hb,hq⟩:=kN hq
   obtain⟨hp,hq⟩:=(aK _ _).1 hq
   have h5:=bU.1 (qKp (k:=fun x=>DT.bI (tailA reg p n c kr ku q.2 ρ x) k) hq)
   refine Out.bG.2 ⟨rfl,?_⟩
   cases b with
   | none=>exact Out.aO.2 ⟨hp,h5⟩
   | some b=>exact Out.aO.2 ⟨hb,Out.aO.2 ⟨hp,h5⟩⟩
end
end Go.W
