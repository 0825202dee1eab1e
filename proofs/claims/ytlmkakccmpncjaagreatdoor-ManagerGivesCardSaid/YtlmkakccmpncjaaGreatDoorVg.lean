/- Part of the proof: texts DV DW DX. No conditions. -/
import Derived.Test.YtlmkakccmpncjaaGreatDoorVf
set_option linter.all false
noncomputable section
namespace Go.W
open Go Go.RowKit
section
variable (reg:Reg)
def dA:Kd→Bool
 | .own _ _ _=>false
 | _=>true
def qME:(ks:List Kd)→List (V reg.T)→(Nat→Option (O reg.T))→Option (Ob×Cs reg ks)
 | [],vs,_=>(match vs with | []=>some (none,()) | _=>none)
 | k::ks,vs,g=>(match vs with
  | v::vs=>(match vY reg k v g,qME ks vs g with
   | some (b,x,_),some (b',y)=>some (qUA b b',(x,y))
   | _,_=>none)
  | []=>none)
def qDQ:(ks:List Kd)→Cs reg ks→List (V reg.T)
 | [],_=>[]
 | k::ks,x=>qJ9 reg k x.1::qDQ ks x.2
def qJI(ks:List Kd)(v:V reg.T)(g:Nat→Option (O reg.T)):Option (Ob×Cs reg ks):=match ks with
 | [k]=>(match vY reg k v g with | some (b,x,_)=>some (b,(x,())) | none=>none)
 | ks=>(match v with | .tup vs=>qME reg ks vs g | _=>none)
def encR(ks:List Kd)(x:Cs reg ks):V reg.T:=match ks,x with
 | [k],x=>qJ9 reg k x.1
 | ks,x=>.tup (qDQ reg ks x)
def zAw(ks:List Kd)(q:V reg.T×Hp reg.T):DT (Cs reg ks):=match qJI reg ks q.1 q.2.get with
 | some (b,x)=>qFq b (.ret x)
 | none=>.bad
variable {reg} in
def aS(st:St reg.T)(t e:Nat)(cut:Bool):Ld:=.slot t (match st.env.get t with
 | some (.d (.sl _ _))=>.dat e
 | some (.sl i _ _ _)=>.own i e cut
 | _=>.own (Nat.add st.hp.nx t) e cut)
variable {reg} in
def bK(st:St reg.T)(t:Nat)(ks:List Kd):List Ld:=match st.env.get t with
 | some (.ptr i _ _)=>[.obj i ks]
 | _=>[]
variable {reg} in
def qMF(st:St reg.T)(t e:Nat):List Ld:=match st.env.get t with
 | some (.sl i _ _ _)=>[.rows i e]
 | _=>[]
def ixB(i:Int)(n:Int):Bool:=decide (0≤i)&&decide (i<n)&&true&&true
def aT(n b:Nat):Bool:=Nat.ble (n*b) 140737488355328&&Nat.ble n 9223372036854775807&&true&&true
def slB(l u n:Int):Bool:=inB l u n&&true&&true
def aO{α:Type}(lo hi:Nat)(l:List α):List α:=(l.take hi).drop lo
def bF{α:Type}(lo n:Nat)(l:List α):List α:=(l.drop lo).take n
def qBJ(ka kr:List Kd)(pre:Cs reg ka→Bool)(M:Cs reg ka→Cs reg kr):Spec reg.T :=
 ⟨Cs reg ka,qDQ reg ka,fun _=>[],pre,fun a=>.ret (encR reg kr (M a),[])⟩
def isNone{α:Type}:Option α→Bool
 | none=>true
 | some _=>false
def wD(ka:List Kd)(args:List (V reg.T))(g:Nat→Option (O reg.T)):Option (Cs reg ka×List Nat):=match qME reg ka args g with
 | some (none,x)=>some (x,[])
 | _=>none
end
section
variable {reg:Reg} {P:Program} {hd:Hd reg.T}
theorem qW{T:Nat→Type}(x:D T):zDl x x:=by
 cases x with
 | int k n=>exact(bD _ _).2 ⟨by cases k<;>rfl,rfl⟩
 | _=>exact rfl
theorem DLe.cov{T:Nat→Type}{x y:D T}(h:DLe x y):zDl y x:=by
 rcases h with rfl | ⟨rfl,⟨e,rfl⟩ | ⟨k,rfl⟩⟩
 ·exact qW _
 ·exact rfl
 ·exact rfl
theorem qQO{ρ:List (Nat×Nat)}:∀{xs ys:List (D reg.T)},ys.length=xs.length→(∀j,DLe (xs.getD j .nilp) (ys.getD j .nilp))→lF.goL (T:=reg.T) ρ (ys.map .d) (xs.map .d)
 | [],[],_,_=>trivial
 | x::xs,y::ys,hl,h=>by
  refine⟨(h 0).cov,qQO (by simpa using hl) fun j=>?_⟩
  have:= h (j+1)
  simpa using this
 | [],_::_,hl,_=>by simp at hl
 | _::_,[],hl,_=>by simp at hl
theorem qJJ{l:List (Nat×Nat)}:∀(xs ys:List (D reg.T)),V.pairs.goL (T:=reg.T) (ys.map .d) (xs.map .d) l=l
 | [],[]=>rfl
 | [],_::_=>rfl
 | _::_,[]=>rfl
 | x::xs,y::ys=>by
  show V.pairs.goL (ys.map .d) (xs.map .d) (V.pairs (.d y) (.d x) l)=l
  rw[show V.pairs (T:=reg.T) (.d y) (.d x) l=l from rfl]
  exact qJJ xs ys
theorem qMG{k:Kd}{v:V reg.T}{g:Nat→Option (O reg.T)}{b:Ob}{x:k.T reg}{o:Option Nat}(h:vY reg k v g=some (b,x,o))(hk:dA k=true) :
  (∀ρ,lF ρ (qJ9 reg k x) v)∧(∀l,V.pairs (qJ9 reg k x) v l=l)∧b=none:=by
 cases k with
 | own m e c=>cases hk
 | cst c =>
  simp only[vY,isRec,Kd.read] at h
  split at h
  ·rename_i y hc
   split at h
   ·rename_i hk'
    cases h
    cases hc
    have e:=CD.zLs hk'
    refine⟨fun ρ=>?_,fun l=>rfl,rfl⟩
    show lF ρ (.d c.enc) (.d y)
    rw[e]
    exact qW y
   ·cases h
  ·cases h
 | int k =>
  simp only[vY,isRec,Kd.read] at h
  split at h
  ·rename_i hc
   split at h
   ·rename_i hk'
    cases h
    cases qFs hk'
    cases hc
    exact⟨fun ρ=>qW (T:=reg.T) (D.int k x),fun l=>rfl,rfl⟩
   ·cases h
  ·cases h
 | bool =>
  simp only[vY,isRec,Kd.read] at h
  split at h
  ·rename_i hc;cases h;cases hc;exact⟨fun ρ=>qW (T:=reg.T) (D.bool x),fun l=>rfl,rfl⟩
  ·cases h
 | str =>
  simp only[vY,isRec,Kd.read] at h
  split at h
  ·rename_i hc;cases h;cases hc;exact⟨fun ρ=>qW (T:=reg.T) (D.str x),fun l=>rfl,rfl⟩
  ·cases h
 | dat e =>
  simp only[vY,isRec,Kd.read] at h
  split at h
  ·rename_i e' xs hc
   split at h
   ·rename_i ys hys
    cases h
    cases hc
    refine⟨fun ρ=>?_,fun l=>rfl,rfl⟩
    rw[(qBE hys).1]
    exact qW (D.sl e x)
   ·cases h
  ·rename_i hc;cases h;cases hc;exact⟨fun ρ=>rfl,fun l=>rfl,rfl⟩
  ·cases h
 | rcd e =>
  simp only[vY,isRec] at h
  split at h
  ·rename_i cs
   simp only[Kd.read] at h
   split at h
   ·rename_i l hl
    split at h
    ·rename_i x' hx
     cases h
     have h1:=reg.law e l _ hx
     have h2:=sO hl
     subst h2
     exact⟨fun ρ=>qQO h1.1 h1.2,fun l'=>qJJ l _,rfl⟩
    ·cases h
   ·cases h
  ·cases h
theorem zP:∀{ks:List Kd} {vs:List (V reg.T)} {g:Nat→Option (O reg.T)} {b:Ob} {x:Cs reg ks},qME reg ks vs g=some (b,x)→ks.all dA=true →
  (∀ρ,lF.goL ρ (qDQ reg ks x) vs)∧(∀l,V.pairs.goL (qDQ reg ks x) vs l=l)∧b=none
 | [],vs,g,b,x,h,hk=>by
  simp only[qME] at h
  split at h
  ·cases h;exact⟨fun ρ=>trivial,fun l=>rfl,rfl⟩
  ·cases h
 | k::ks,vs,g,b,x,h,hk=>by
  simp only[qME] at h
  simp only[u7,bn] at hk
  split at h
  ·rename_i v vs
   split at h
   ·rename_i b1 x1 o b2 y h1 h2
    simp only[bz,eu] at h
    obtain⟨rfl,rfl⟩:=h
    obtain⟨c1,c2,c3⟩:=qMG h1 hk.1
    obtain⟨d1,d2,d3⟩:=zP h2 hk.2
    refine⟨fun ρ=>⟨c1 ρ,d1 ρ⟩,fun l=>?_,by rw[c3,d3];rfl⟩
    show V.pairs.goL (qDQ reg ks y) vs (V.pairs (qJ9 reg k x1) v l)=l
    rw[c2,d2]
   ·cases h
  ·cases h
theorem qMH{ks:List Kd}{v:V reg.T}{g:Nat→Option (O reg.T)}{b:Ob}{x:Cs reg ks}(h:qJI reg ks v g=some (b,x))(hk:ks.all dA=true) :
  (∀ρ,lF ρ (encR reg ks x) v)∧∀l,V.pairs (encR reg ks x) v l=l:=by
 unfold qJI at h
 split at h
 ·rename_i k
  split at h
  ·rename_i b1 x1 o h1
   simp only[bz,eu] at h
   obtain⟨rfl,rfl⟩:=h
   simp only[u7,bn] at hk
   obtain⟨c1,c2,_⟩:=qMG h1 hk.1
   exact⟨c1,c2⟩
  ·cases h
 ·rename_i hne
  split at h
  ·rename_i vs
   obtain⟨c1,c2,_⟩:=zP h hk
   have e:encR reg ks x=.tup (qDQ reg ks x):=by
    unfold encR
    split
    ·rename_i k _;exact(hne k rfl).elim
    ·rfl
   rw[e]
   exact⟨c1,c2⟩
  ·cases h
theorem qJK{ks:List Kd}{r:V reg.T×Hp reg.T}{b:Ob}{x:Cs reg ks}(h:qJI reg ks r.1 r.2.get=some (b,x))(hk:ks.all dA=true):zIL 0 r (encR reg ks x) []:=by
 obtain⟨c1,c2⟩:=qMH h hk
 have e:qFm 0 r.2.h r.1 (encR reg ks x) []=[]:=by
  show qCW r.2.h [] (V.pairs (encR reg ks x) r.1 (zDk 0))=[]
  rw[c2];rfl
 unfold zIL
 simp only[e]
 exact(bD _ _).2 ⟨rfl,c1 [],trivial⟩
def qFv(ka kr:List Kd)(pre:Cs reg ka→Bool)(M:Cs reg ka→Cs reg kr)(hk:ka.all dA=true):zDq (qBJ reg ka kr pre M) where
 find args g:=wD reg ka args g
 ok args g a ρ h:=by
  unfold wD at h
  split at h
  ·rename_i x hx
   cases h
   obtain⟨c1,_,_⟩:=zP hx hk
   exact⟨c1 _,rfl,fun j o hj=>by simp[qBJ] at hj⟩
  ·cases h
theorem qOV(hm:P.follows .mixedOrders=true)(hHd:bI P hd){fuel:Nat}{L J:Nat→St reg.T→Option (List Ld)}{f:FuncId}{fn:Func}(hfn:P.funcs[f]? = some fn){args:List (V reg.T)}{h:Hp reg.T}(hwr:h.wr=[]){α:Type}{k:V reg.T×Hp reg.T→DT α}{x:α}
  (hq:(qOT reg P hd fuel L J fn args h k).G x) {F:Nat→Prop} {φ:Phi} {w:World} {cargs:Array Value} (hH:HR (fun i=>i<h.nx) F φ h w) (hl:jD F w φ args cargs) :
  Calls P f cargs w (gN (fun i=>i<h.nx) F φ h w fun r=>(k r).G x):=by
 unfold qOT at hq
 split at hq
 ·exact hq.elim
 rename_i c hb
 split at hq
 ·rename_i hc
  simp only[bn] at hc
  have hle:args.length≤fn.ntmps:=by simpa using hc.1
  have hnt:fn.ntmps≤1000000:=bu hc.2
  have hR0:=zI (nt:=fn.ntmps) hH hl hle hnt
  have hh:(⟨h.h,h.nx,[]⟩:Hp reg.T)=h:=by cases h;simp only at hwr;rw[hwr]
  rw[hh] at hq
  refine calls_of_wp hfn hb (wp_mono (zAv (n0:=h.nx) (F0:=F) (φ0:=φ) (H0:=h.get) (w0:=w) hm hHd hnt c _ _ x hq ⟨_,F,φ,fun i hi=>hi,hR0,Goes.refl reg hH⟩) fun e a' w' he=>?_)
  have hfin:∀(r:aQ×St reg.T) (Q:V reg.T×Hp reg.T→Prop),(qH P fn r).K Q→∃v,qLS P fn r.2=some v∧Q (v,r.2.hp)∧∀id,r.1≠.exit id:=by
   intro r Q hr
   obtain⟨e,st⟩:=r
   cases e with
   | normal=>obtain⟨v,h1,h2⟩:=jC hr;exact⟨v,h1,h2,fun id=>by simp⟩
   | ret=>obtain⟨v,h1,h2⟩:=jC hr;exact⟨v,h1,h2,fun id=>by simp⟩
   | exit id=>exact hr.elim
  have fin:∀(e':aQ) st,(qH P fn (e',st)).K (fun q=>(lD reg h (q.1,⟨q.2.h,q.2.nx,List.range h.nx⟩)).K fun r=>(k r).G x)→RA h.nx F φ h.get w fn.ntmps st a' w'→a'.defers=[]∧∃cv,(results fn a'.tmps).run P w' = .ok cv w'∧gN (fun i=>i<h.nx) F φ h w (fun r=>(k r).G x) (.returned cv) w':=by
   rintro e' st hk ⟨N,F',φ',hN,hR,hG⟩
   obtain⟨v,h4,h5,_⟩:=hfin _ _ hk
   obtain⟨cv,h6,h7⟩:=qP hR h4
   obtain⟨r,h8,h9⟩:=(Out.fF _ _).1 h5
   have hnx:h.nx≤st.hp.nx:=by
    rcases l5 h.nx with h0 | h0
    ·omega
    ·have:= hN (h.nx-1) (hG.names _ (show h.nx-1<h.nx by omega));omega
   have hres:Res (fun i=>i<h.nx) F φ h w (·= (v,⟨st.hp.h,st.hp.nx,List.range h.nx⟩)) cv w':=by
    refine⟨v,⟨st.hp.h,st.hp.nx,List.range h.nx⟩,N,F',φ',rfl,h7,hR.heap,⟨hG,⟨hnx,List.range h.nx,by rw[hwr,lv],fun i hi1 hi2=>?_⟩,fun i hi=>?_⟩⟩
    ·simp only[List.mem_range,Nat.not_lt] at hi1
     have h1:∀(H:Nat→Option (O reg.T)) (N:Nat→Prop) (F:Nat→Prop) (φ:Phi) (w:World) (n:Nat),qI reg F φ N H w→(∀i,N i→i<n)→n≤i→H i=none:=by
      intro H N F φ w n hH hN hi
      cases hHi:H i with
      | none=>rfl
      | some o=>have:= hN i (hH.lt i o hHi);omega
     have hi2:st.hp.nx≤i:=by
      have hi2:¬(h.nx≤i∧i<st.hp.nx):=hi2
      omega
     have e1:=h1 h.get _ F φ w h.nx hH (fun i hi=>hi) hi1
     have e2:st.hp.get i=none:=h1 st.hp.get N F' φ' w' st.hp.nx hR.heap hN hi2
     rw[e1];exact e2
    ·by_cases h1:i<h.nx
     ·exact .inl h1
     ·exact .inr ⟨by omega,hN i hi⟩
   obtain⟨v2,h2',N2,F2,φ2,e2,a,b,c⟩:=(qBA h8).2 _ F φ w cv w' hres
   exact⟨hR.dfs,cv,h6,cv,rfl,v2,h2',N2,F2,φ2,e2▸h9,a,b,c⟩
  have split:∀(e':aQ) st,(DT.dU ((qH P fn (e',st)).bind fun q=>lD reg h (q.1,⟨q.2.h,q.2.nx,List.range h.nx⟩)) k).G x→(qH P fn (e',st)).K (fun q=>(lD reg h (q.1,⟨q.2.h,q.2.nx,List.range h.nx⟩)).K fun r=>(k r).G x):=by
   intro e' st hk
   have:= DT.iE hk
   rw[Out.cO] at this
   exact this
  cases e with
  | normal=>obtain⟨st,hq,_,_,hR⟩:=he;exact fin _ st (split _ _ hq) hR
  | ret=>obtain⟨st,hq,_,_,hR⟩:=he;exact fin _ st (split _ _ hq) hR
  | exit id =>
   obtain⟨st,hq,_,_,hR⟩:=he
   obtain⟨_,_,_,h6⟩:=hfin _ _ (split _ _ hq)
   exact(h6 id rfl).elim
  | goto l=>exact he.elim
  | panic ch=>exact he.elim
  | outgrown=>exact he.elim
 ·exact hq.elim
theorem qGV(hm:P.follows .mixedOrders=true)(hHd:bI P hd){fuel:Nat}{L J:Nat→St reg.T→Option (List Ld)}{f:FuncId}{fn:Func}(hfn:P.funcs[f]? = some fn)(ht:There P f){ka kr:List Kd}(hkr:kr.all dA=true){pre:Cs reg ka→Bool}{M:Cs reg ka→Cs reg kr}
  (h:∀a,pre a=true→(qOT reg P hd fuel L J fn (qDQ reg ka a) ⟨.e,0,[]⟩ (zAw reg kr)).G (M a)):yN P f (qBJ reg ka kr pre M):=by
 refine⟨ht,fun a hp F φ w cargs hH hl q hq=>?_⟩
 have hq:(encR reg kr (M a),([]:List (Option (O reg.T))))=q:=hq
 subst hq
 refine(qOV hm hHd hfn (h:=vX []) rfl (h a hp) hH hl).mono fun e w' he=>?_
 obtain⟨cv,he,v,h',N',F',φ',hq',hv,hH',hG⟩:=he
 refine⟨cv,he,v,h',N',F',φ',?_,hv,hH',hG⟩
 unfold zAw at hq'
 split at hq'
 ·rename_i b x hx
  obtain⟨_,hq'⟩:=uR hq'
  have hq':x=M a:=hq'
  subst hq'
  exact qJK hx hkr
 ·exact hq'.elim
end
end Go.W
namespace Go.W
open Go Go.RowKit
def qQP{T:Nat→Type}:V T→List Nat→List Nat
 | .agg vs,l=>goL vs l
 | _,l=>l
where goL {T:Nat→Type}:List (V T)→List Nat→List Nat
 | [],l=>l
 | v::vs,l=>goL vs (match v with
  | .sl i _ _ _=>addN l i
  | v=>qQP v l)
def zD4{T:Nat→Type}:List (V T)→List Nat→List Nat
 | [],l=>l
 | v::vs,l=>zD4 vs (match v with
  | .sl i _ _ _=>addN l i
  | v=>qQP v l)
section
variable (reg:Reg)
def kS(args:List (V reg.T))(h:Hp reg.T):Out (List (V reg.T)×Hp reg.T):=match zD4 args [] with
 | []=>.ret (args,h)
 | i::l=>(qB9 reg (List.range h.nx) (qX8 h.get (i::l)) (.tup args,h)).bind fun r=>(match r.1 with
  | .tup vs=>.ret (vs,r.2)
  | _=>.bad)
def fzC(C:Con reg.T):Con reg.T:=fun f=>(match C f with
 | some S=>some fun args h=>(kS reg args h).bind fun q=>S q.1 q.2
 | none=>none)
end
section
variable {reg:Reg} {P:Program}
theorem qAH{args:List (V reg.T)}{h:Hp reg.T}{q:List (V reg.T)×Hp reg.T}(hK:(kS reg args h).K (·= q)):h.nx≤q.2.nx∧∀N F φ w cargs,HR N F φ h w→jD F w φ args cargs →
  ∃N' F' φ',jD F' w φ' q.1 cargs∧HR N' F' φ' q.2 w∧GO N F φ h w N' F' φ' q.2 w:=by
 unfold kS at hK
 split at hK
 ·cases hK
  exact⟨df _,fun N F φ w cargs hH hl=>⟨N,F,φ,hl,hH,GO.refl hH⟩⟩
 ·rw[Out.cO] at hK
  obtain⟨r,h1,h2⟩:=(Out.fF _ _).1 hK
  have ht:=zK (h0:=h) h1
  split at h2
  ·rename_i vs hv
   cases h2
   refine⟨ht.1,fun N F φ w cargs hH hl=>?_⟩
   obtain⟨v2,h2',N',F',φ',e,hv',hH',hG⟩:=ht.2 N F φ w (.tuple cargs) w ⟨_,h,N,F,φ,rfl,.tup args cargs hl.1 hl.2,hH,GO.refl hH⟩
   subst e
   have hv:v2=.tup vs:=hv
   subst hv
   cases hv' with
   | tup _ _ hz hh=>exact⟨N',F',φ',⟨hz,hh⟩,hH',hG⟩
  ·exact h2.elim
theorem qOW{C:Con reg.T}(hC:iH P C):iH P (fzC reg C):=by
 intro f S hS args h Q hq
 simp only[fzC] at hS
 split at hS
 ·rename_i S0 hS0
  cases hS
  simp only[Out.cO] at hq
  obtain⟨q,h1,h2⟩:=(Out.fF _ _).1 hq
  obtain⟨hnx,hfz⟩:=qAH h1
  obtain⟨ht,hc⟩:=hC f S0 hS0 q.1 q.2 Q h2
  refine⟨ht,fun N F φ w cargs hfr hH hl=>?_⟩
  obtain⟨N',F',φ',hl',hH',hG⟩:=hfz N F φ w cargs hH hl
  refine(hc N' F' φ' w cargs (fun r hr=>qAB (hfr r hr) hnx hG.names) hH' hl').mono (fun e w' he=>?_)
  obtain⟨cv,he,v,h',N2,F2,φ2,hq',hv,hH2,hG2⟩:=he
  exact⟨cv,he,v,h',N2,F2,φ2,hq',hv,hH2,hG.trans hG2⟩
 ·cases hS
end
def zLu{T:Nat→Type}:D T→Bool
 | .bool _=>true
 | .int _ _=>true
 | .str _=>true
 | _=>false
def qDY{T:Nat→Type}:V T→Bool
 | .d x=>zLu x
 | .agg vs=>goL vs
 | .tup vs=>goL vs
 | _=>false
where goL {T:Nat→Type}:List (V T)→Bool
 | []=>true
 | v::vs=>qDY v&&goL vs
def eD(reg:Reg)(ka kr:List Kd)(pre:Cs reg ka→Bool)(M:Cs reg ka→Cs reg kr)(args:List (V reg.T))(h:Hp reg.T):Out (V reg.T×Hp reg.T) :=
 (kS reg args h).bind fun q=>(match wD reg ka q.1 q.2.get with
  | some (a,_)=>.need (pre a) (.ret (encR reg kr (M a),h))
  | none=>.bad)
section
variable {reg:Reg} {P:Program}
theorem qGW{T:Nat→Type}:∀{vs:List (V T)},qDY.goL vs=true→∀j,j<vs.length→qDY (vs.getD j .any)=true
 | [],_,j,hj=>by simp at hj
 | v::vs,h,j,hj=>by
  simp only[qDY.goL,bn] at h
  cases j with
  | zero=>exact h.1
  | succ j=>simpa using qGW h.2 j (by simpa using hj)
theorem zAx{F F':Nat→Prop}{w w':World}{x:D reg.T}{cv:Value}(h:iO reg F w x cv):zLu x=true→iO reg F' w' x cv:=by
 cases h with
 | bool b=>intro _;exact .bool b
 | int k n=>intro _;exact .int k n
 | str s=>intro _;exact .str s
 | nilp=>intro h;cases h
 | nilm=>intro h;cases h
 | nilf=>intro h;cases h
 | nili=>intro h;cases h
 | nils=>intro h;cases h
 | emp x hx hl b c=>intro h;cases x<;>first | (cases hx;done) | (cases h;done)
 | sl x n a cap C t fz hx=>intro h;cases x<;>first | (cases hx;done) | (cases h;done)
theorem zD5{F F':Nat→Prop}{w w':World}{φ φ':Phi}{v:V reg.T}{cv:Value}(h:aI reg F w φ v cv):qDY v=true→aI reg F' w' φ' v cv:=by
 induction h with
 | d x v hd=>intro hf;exact .d x v (zAx hd hf)
 | agg vs cs hz _ ih=>intro hf;exact .agg vs cs hz fun j hj=>ih j hj (qGW hf j hj)
 | tup vs cs hz _ ih=>intro hf;exact .tup vs cs hz fun j hj=>ih j hj (qGW hf j hj)
 | ptr=>intro hf;cases hf
 | fp=>intro hf;cases hf
 | sl=>intro hf;cases hf
 | slz=>intro hf;cases hf
 | mp=>intro hf;cases hf
 | it=>intro hf;cases hf
 | fn=>intro hf;cases hf
 | ifc=>intro hf;cases hf
 | undef=>intro hf;cases hf
 | any=>intro hf;cases hf
theorem qX9{f:FuncId}{ka kr:List Kd}{pre:Cs reg ka→Bool}{M:Cs reg ka→Cs reg kr}(hS:yN P f (qBJ reg ka kr pre M))(hk:ka.all dA=true)(hfl:∀a,qDY (encR reg kr (M a))=true):∀args h Q,(eD reg ka kr pre M args h).K Q →
  There P f∧∀N F φ w cargs,(∀r,Q r→gM N h.nx r.2.nx)→HR N F φ h w→jD F w φ args cargs→Calls P f cargs w (gN N F φ h w Q):=by
 intro args h Q hq
 unfold eD at hq
 rw[Out.cO] at hq
 obtain⟨q,h1,h2⟩:=(Out.fF _ _).1 hq
 split at h2
 ·rename_i a ρ hfd
  obtain⟨hp,hQ⟩:=Out.bO.1 h2
  refine⟨hS.1,fun N F φ w cargs _ hH hl=>?_⟩
  obtain⟨N',F',φ',hl',hH',hG'⟩:=(qAH h1).2 N F φ w cargs hH hl
  have hc:lF.goL (at0 0 ρ) (qDQ reg ka a) q.1∧ρ=[]:=by
   unfold wD at hfd
   split at hfd
   ·rename_i x hx
    cases hfd
    exact⟨(zP hx hk).1 _,rfl⟩
   ·cases hfd
  obtain⟨hc,rfl⟩:=hc
  have hl0:jD F' w (qD (at0 0 []) φ') (qDQ reg ka a) cargs:=by
   obtain⟨e1,e2⟩:=qFl hc
   exact⟨by rw[e1];exact hl'.1,fun j hj=>(sV (hl'.2 j (by omega)) (e2 j hj)).1⟩
  have hn:∀i,qD (at0 0 []) φ' i=none:=fun i=>rfl
  have hc0:qI reg F' (qD (at0 0 []) φ') (fun j=>j<0) (vX ([]:List (O reg.T))).get w:=by
   have he:∀j,(vX ([]:List (O reg.T))).get j=none:=fun j=>rfl
   refine⟨fun j o ho=>?_,fun j o b s k ho=>?_,fun j j' o o' b s1 k1 s2 k2 hj=>?_,fun j p hp=>?_,fun j o ho=>?_,fun j hj=>(qm _ hj).elim,hH'.frz,hH'.lay⟩
   ·rw[he] at ho;cases ho
   ·rw[he] at ho;cases ho
   ·rw[he] at hj;cases hj
   ·rw[hn] at hp;cases hp
   ·rw[he] at ho;cases ho
  refine(hS.2 a hp F' _ w cargs hc0 hl0 (encR reg kr (M a),[]) rfl).mono fun e w' he=>?_
  obtain⟨cv,he,v1,h1',N1,F1,φ1,hcov,hv,hP,hG⟩:=he
  refine⟨cv,he,?_⟩
  have hcv:=((bD _ _).1 hcov).2.1
  have hv2:=(sV hv hcv).1
  have hblk:∀b,b<w.heap.size→w'.heap[b]? = w.heap[b]?:=fun b hb=>hG.goes.block b hb (fun⟨i,o,s,k,hi,_⟩=>by cases hi)
  have hall:∀b,F b∨fP reg φ h.get b→w'.heap[b]? = w.heap[b]?:=by
   rintro b (hb | ⟨i,o,s,k,hi,hpi⟩)
   ·exact hblk b (hH.frz b hb)
   ·exact hblk b (hH.own i o b s k hi hpi).2
  have hH2:=qI.later hH hG.goes.size hall
  exact⟨encR reg kr (M a),h,N,F,φ,hQ,zD5 hv2 (hfl a),hH2,⟨⟨hG.goes.os,hG.goes.tape,hG.goes.output,hG.goes.size,fun b hb _=>hblk b hb,fun b hb=>hb,fun b hb=>.inl hb,fun i hi=>rfl,fun i hi=>hi,fun b hb=>.inl hb,fun i p hp=>.inl (hH.dom i p hp)⟩,Grow.refl h,fun i hi=>.inl hi⟩⟩
 ·exact h2.elim
end
end Go.W
namespace Go.W
open Go
namespace DT
theorem qQQ{σ α:Type}{B:σ→σ ⊕ α→Prop}(hB:∀s y z,B s y→B s z→y=z):∀(n m:Nat) (s:σ) (x y:α),yO B n s x→yO B m s y→x=y
 | 0,_,_,_,_,h,_=>h.elim
 | _+1,0,_,_,_,_,h=>h.elim
 | n+1,m+1,s,x,y,⟨u,h1,h2⟩,⟨v,h3,h4⟩=>by
  have:= hB _ _ _ h1 h3
  subst this
  cases u with
  | inl s'=>exact qQQ hB n m s' x y h2 h4
  | inr a =>
   have h2:a=x:=h2
   have h4:a=y:=h4
   rw[←h2,←h4]
theorem zOz:∀{α:Type} {t:DT α} {x y:α},t.G x→t.G y→x=y:=by
 intro α t
 induction t with
 | ret a =>
  intro x y h1 h2
  have h1:a=x:=h1
  have h2:a=y:=h2
  rw[←h1,←h2]
 | need b t ih=>intro x y h1 h2;exact ih ((bD _ _).1 h1).2 ((bD _ _).1 h2).2
 | br b t u iht ihu =>
  intro x y h1 h2
  cases b with
  | true=>exact iht h1 h2
  | false=>exact ihu h1 h2
 | both t u iht _=>intro x y h1 h2;exact iht h1.1 h2.1
 | bad=>intro x y h1;exact h1.elim
 | loop s body ih =>
  intro x y ⟨n,h1⟩ ⟨m,h2⟩
  exact qQQ (fun s y z h3 h4=>ih s h3 h4) n m s x y h1 h2
 | join t k iht ihk =>
  intro x y h1 h2
  obtain⟨u,h3,h4⟩:=lG.1 h1
  obtain⟨v,h5,h6⟩:=lG.1 h2
  have:= iht h3 h5
  subst this
  cases u with
  | inl s=>exact ihk s h4 h6
  | inr a =>
   have h4:a=x:=h4
   have h6:a=y:=h6
   rw[←h4,←h6]
open Classical in
def val{α:Type}(t:DT α):Option α:=if h:∃x,t.G x then some (Classical.choose h) else none
theorem qUE{α:Type}{t:DT α}{x:α}(h:t.G x):t.val=some x:=by
 have he:∃x,t.G x:=⟨x,h⟩
 unfold val
 rw[dif_pos he,zOz (qw he) h]
theorem qQR{α:Type}{t:DT α}{d:α}(h:t.val.isSome=true):t.G (t.val.getD d):=by
 unfold val at h ⊢
 by_cases he:∃x,t.G x
 ·rw[dif_pos he];exact qw he
 ·rw[dif_neg he] at h;cases h
end DT
def hide{α:Type}(f:α):α:=Classical.choose (⟨f,rfl⟩:∃g:α,g=f)
theorem qAI{α:Type}(f:α):hide f=f:=qw (⟨f,rfl⟩:∃g:α,g=f)
theorem wX{α β:Type}{f:α→β}(a:α):hide f a=f a:=congrFun (qAI f) a
end Go.W
