/- Part of the proof: texts DV DW DX. No conditions. -/
import Derived.Test.YtclpnndkhbnaoaaGreatDoorVf
set_option linter.all false
noncomputable section
namespace Go.W
open Go Go.RowKit
section
variable (reg:Reg)
def bK:Kd→Bool
 | .own _ _ _=>false
 | _=>true
def qC7:(ks:List Kd)→List (V reg.T)→(Nat→Option (O reg.T))→Option (Ob×Cs reg ks)
 | [],vs,_=>(match vs with | []=>some (none,()) | _=>none)
 | k::ks,vs,g=>(match vs with
  | v::vs=>(match lL reg k v g,qC7 ks vs g with
   | some (b,x,_),some (b',y)=>some (qFR b b',(x,y))
   | _,_=>none)
  | []=>none)
def uI:(ks:List Kd)→Cs reg ks→List (V reg.T)
 | [],_=>[]
 | k::ks,x=>qBg reg k x.1::uI ks x.2
def qBp(ks:List Kd)(v:V reg.T)(g:Nat→Option (O reg.T)):Option (Ob×Cs reg ks):=match ks with
 | [k]=>(match lL reg k v g with | some (b,x,_)=>some (b,(x,())) | none=>none)
 | ks=>(match v with | .tup vs=>qC7 reg ks vs g | _=>none)
def encR(ks:List Kd)(x:Cs reg ks):V reg.T:=match ks,x with
 | [k],x=>qBg reg k x.1
 | ks,x=>.tup (uI reg ks x)
def qIF(ks:List Kd)(q:V reg.T×Hp reg.T):DT (Cs reg ks):=match qBp reg ks q.1 q.2.get with
 | some (b,x)=>wW b (.ret x)
 | none=>.bad
variable {reg} in
def oC(st:St reg.T)(t e:Nat)(cut:Bool):Ld:=.slot t (match st.env.get t with
 | some (.d (.sl _ _))=>.dat e
 | some (.sl i _ _ _)=>.own i e cut
 | _=>.own (Nat.add st.hp.nx t) e cut)
variable {reg} in
def qC8(st:St reg.T)(t:Nat)(ks:List Kd):List Ld:=match st.env.get t with
 | some (.ptr i _ _)=>[.obj i ks]
 | _=>[]
variable {reg} in
def qC9(st:St reg.T)(t e:Nat):List Ld:=match st.env.get t with
 | some (.sl i _ _ _)=>[.rows i e]
 | _=>[]
def ixB(i:Int)(n:Int):Bool:=decide (0≤i)&&decide (i<n)&&true&&true
def dB(n b:Nat):Bool:=Nat.ble (n*b) 140737488355328&&Nat.ble n 9223372036854775807&&true&&true
def slB(l u n:Int):Bool:=inB l u n&&true&&true
def eH{α:Type}(lo hi:Nat)(l:List α):List α:=(l.take hi).drop lo
def dK{α:Type}(lo n:Nat)(l:List α):List α:=(l.drop lo).take n
def uR(ka kr:List Kd)(pre:Cs reg ka→Bool)(M:Cs reg ka→Cs reg kr):Spec reg.T :=
 ⟨Cs reg ka,uI reg ka,fun _=>[],pre,fun a=>.ret (encR reg kr (M a),[])⟩
def isNone{α:Type}:Option α→Bool
 | none=>true
 | some _=>false
def lS(ka:List Kd)(args:List (V reg.T))(g:Nat→Option (O reg.T)):Option (Cs reg ka×List Nat):=match qC7 reg ka args g with
 | some (none,x)=>some (x,[])
 | _=>none
end
section
variable {reg:Reg} {P:Program} {hd:Hd reg.T}
theorem jJ{T:Nat→Type}(x:D T):qJJ x x:=by
 cases x with
 | int k n=>exact(aK _ _).2 ⟨by cases k<;>rfl,rfl⟩
 | _=>exact rfl
theorem DLe.cov{T:Nat→Type}{x y:D T}(h:DLe x y):qJJ y x:=by
 rcases h with rfl | ⟨rfl,⟨e,rfl⟩ | ⟨k,rfl⟩⟩
 ·exact jJ _
 ·exact rfl
 ·exact rfl
theorem qE3{ρ:List (Nat×Nat)}:∀{xs ys:List (D reg.T)},ys.length=xs.length→(∀j,DLe (xs.getD j .nilp) (ys.getD j .nilp))→gB.goL (T:=reg.T) ρ (ys.map .d) (xs.map .d)
 | [],[],_,_=>trivial
 | x::xs,y::ys,hl,h=>by
  refine⟨(h 0).cov,qE3 (by simpa using hl) fun j=>?_⟩
  have:= h (j+1)
  simpa using this
 | [],_::_,hl,_=>by simp at hl
 | _::_,[],hl,_=>by simp at hl
theorem qBq{l:List (Nat×Nat)}:∀(xs ys:List (D reg.T)),V.pairs.goL (T:=reg.T) (ys.map .d) (xs.map .d) l=l
 | [],[]=>rfl
 | [],_::_=>rfl
 | _::_,[]=>rfl
 | x::xs,y::ys=>by
  show V.pairs.goL (ys.map .d) (xs.map .d) (V.pairs (.d y) (.d x) l)=l
  rw[show V.pairs (T:=reg.T) (.d y) (.d x) l=l from rfl]
  exact qBq xs ys
theorem qCA{k:Kd}{v:V reg.T}{g:Nat→Option (O reg.T)}{b:Ob}{x:k.T reg}{o:Option Nat}(h:lL reg k v g=some (b,x,o))(hk:bK k=true) :
  (∀ρ,gB ρ (qBg reg k x) v)∧(∀l,V.pairs (qBg reg k x) v l=l)∧b=none:=by
 cases k with
 | own m e c=>cases hk
 | cst c =>
  simp only[lL,isRec,Kd.read] at h
  split at h
  ·rename_i y hc
   split at h
   ·rename_i hk'
    cases h
    cases hc
    have e:=CD.qOj hk'
    refine⟨fun ρ=>?_,fun l=>rfl,rfl⟩
    show gB ρ (.d c.enc) (.d y)
    rw[e]
    exact jJ y
   ·cases h
  ·cases h
 | int k =>
  simp only[lL,isRec,Kd.read] at h
  split at h
  ·rename_i hc
   split at h
   ·rename_i hk'
    cases h
    cases wZ hk'
    cases hc
    exact⟨fun ρ=>jJ (T:=reg.T) (D.int k x),fun l=>rfl,rfl⟩
   ·cases h
  ·cases h
 | bool =>
  simp only[lL,isRec,Kd.read] at h
  split at h
  ·rename_i hc;cases h;cases hc;exact⟨fun ρ=>jJ (T:=reg.T) (D.bool x),fun l=>rfl,rfl⟩
  ·cases h
 | str =>
  simp only[lL,isRec,Kd.read] at h
  split at h
  ·rename_i hc;cases h;cases hc;exact⟨fun ρ=>jJ (T:=reg.T) (D.str x),fun l=>rfl,rfl⟩
  ·cases h
 | dat e =>
  simp only[lL,isRec,Kd.read] at h
  split at h
  ·rename_i e' xs hc
   split at h
   ·rename_i ys hys
    cases h
    cases hc
    refine⟨fun ρ=>?_,fun l=>rfl,rfl⟩
    rw[(rQ hys).1]
    exact jJ (D.sl e x)
   ·cases h
  ·rename_i hc;cases h;cases hc;exact⟨fun ρ=>rfl,fun l=>rfl,rfl⟩
  ·cases h
 | rcd e =>
  simp only[lL,isRec] at h
  split at h
  ·rename_i cs
   simp only[Kd.read] at h
   split at h
   ·rename_i l hl
    split at h
    ·rename_i x' hx
     cases h
     have h1:=reg.law e l _ hx
     have h2:=jQ hl
     subst h2
     exact⟨fun ρ=>qE3 h1.1 h1.2,fun l'=>qBq l _,rfl⟩
    ·cases h
   ·cases h
  ·cases h
theorem oD:∀{ks:List Kd} {vs:List (V reg.T)} {g:Nat→Option (O reg.T)} {b:Ob} {x:Cs reg ks},qC7 reg ks vs g=some (b,x)→ks.all bK=true →
  (∀ρ,gB.goL ρ (uI reg ks x) vs)∧(∀l,V.pairs.goL (uI reg ks x) vs l=l)∧b=none
 | [],vs,g,b,x,h,hk=>by
  simp only[qC7] at h
  split at h
  ·cases h;exact⟨fun ρ=>trivial,fun l=>rfl,rfl⟩
  ·cases h
 | k::ks,vs,g,b,x,h,hk=>by
  simp only[qC7] at h
  simp only[ow,bu] at hk
  split at h
  ·rename_i v vs
   split at h
   ·rename_i b1 x1 o b2 y h1 h2
    simp only[cu,dx] at h
    obtain⟨rfl,rfl⟩:=h
    obtain⟨c1,c2,c3⟩:=qCA h1 hk.1
    obtain⟨d1,d2,d3⟩:=oD h2 hk.2
    refine⟨fun ρ=>⟨c1 ρ,d1 ρ⟩,fun l=>?_,by rw[c3,d3];rfl⟩
    show V.pairs.goL (uI reg ks y) vs (V.pairs (qBg reg k x1) v l)=l
    rw[c2,d2]
   ·cases h
  ·cases h
theorem qCB{ks:List Kd}{v:V reg.T}{g:Nat→Option (O reg.T)}{b:Ob}{x:Cs reg ks}(h:qBp reg ks v g=some (b,x))(hk:ks.all bK=true) :
  (∀ρ,gB ρ (encR reg ks x) v)∧∀l,V.pairs (encR reg ks x) v l=l:=by
 unfold qBp at h
 split at h
 ·rename_i k
  split at h
  ·rename_i b1 x1 o h1
   simp only[cu,dx] at h
   obtain⟨rfl,rfl⟩:=h
   simp only[ow,bu] at hk
   obtain⟨c1,c2,_⟩:=qCA h1 hk.1
   exact⟨c1,c2⟩
  ·cases h
 ·rename_i hne
  split at h
  ·rename_i vs
   obtain⟨c1,c2,_⟩:=oD h hk
   have e:encR reg ks x=.tup (uI reg ks x):=by
    unfold encR
    split
    ·rename_i k _;exact(hne k rfl).elim
    ·rfl
   rw[e]
   exact⟨c1,c2⟩
  ·cases h
theorem qBr{ks:List Kd}{r:V reg.T×Hp reg.T}{b:Ob}{x:Cs reg ks}(h:qBp reg ks r.1 r.2.get=some (b,x))(hk:ks.all bK=true):qM4 0 r (encR reg ks x) []:=by
 obtain⟨c1,c2⟩:=qCB h hk
 have e:wS 0 r.2.h r.1 (encR reg ks x) []=[]:=by
  show tC r.2.h [] (V.pairs (encR reg ks x) r.1 (qJI 0))=[]
  rw[c2];rfl
 unfold qM4
 simp only[e]
 exact(aK _ _).2 ⟨rfl,c1 [],trivial⟩
def xC(ka kr:List Kd)(pre:Cs reg ka→Bool)(M:Cs reg ka→Cs reg kr)(hk:ka.all bK=true):qJO (uR reg ka kr pre M) where
 find args g:=lS reg ka args g
 ok args g a ρ h:=by
  unfold lS at h
  split at h
  ·rename_i x hx
   cases h
   obtain⟨c1,_,_⟩:=oD hx hk
   exact⟨c1 _,rfl,fun j o hj=>by simp[uR] at hj⟩
  ·cases h
theorem qD1(hm:P.follows .mixedOrders=true)(hHd:bT P hd){fuel:Nat}{L J:Nat→St reg.T→Option (List Ld)}{f:FuncId}{fn:Func}(hfn:P.funcs[f]? = some fn){args:List (V reg.T)}{h:Hp reg.T}(hwr:h.wr=[]){α:Type}{k:V reg.T×Hp reg.T→DT α}{x:α}
  (hq:(qDz reg P hd fuel L J fn args h k).G x) {F:Nat→Prop} {φ:Phi} {w:World} {cargs:Array Value} (hH:HR (fun i=>i<h.nx) F φ h w) (hl:eF F w φ args cargs) :
  Calls P f cargs w (bY (fun i=>i<h.nx) F φ h w fun r=>(k r).G x):=by
 unfold qDz at hq
 split at hq
 ·exact hq.elim
 rename_i c hb
 split at hq
 ·rename_i hc
  simp only[bu] at hc
  have hle:args.length≤fn.ntmps:=by simpa using hc.1
  have hnt:fn.ntmps≤1000000:=bz hc.2
  have hR0:=nT (nt:=fn.ntmps) hH hl hle hnt
  have hh:(⟨h.h,h.nx,[]⟩:Hp reg.T)=h:=by cases h;simp only at hwr;rw[hwr]
  rw[hh] at hq
  refine calls_of_wp hfn hb (wp_mono (qIE (n0:=h.nx) (F0:=F) (φ0:=φ) (H0:=h.get) (w0:=w) hm hHd hnt c _ _ x hq ⟨_,F,φ,fun i hi=>hi,hR0,Goes.refl reg hH⟩) fun e a' w' he=>?_)
  have hfin:∀(r:aH×St reg.T) (Q:V reg.T×Hp reg.T→Prop),(iW P fn r).K Q→∃v,qBU P fn r.2=some v∧Q (v,r.2.hp)∧∀id,r.1≠.exit id:=by
   intro r Q hr
   obtain⟨e,st⟩:=r
   cases e with
   | normal=>obtain⟨v,h1,h2⟩:=eD hr;exact⟨v,h1,h2,fun id=>by simp⟩
   | ret=>obtain⟨v,h1,h2⟩:=eD hr;exact⟨v,h1,h2,fun id=>by simp⟩
   | exit id=>exact hr.elim
  have fin:∀(e':aH) st,(iW P fn (e',st)).K (fun q=>(fZ reg h (q.1,⟨q.2.h,q.2.nx,List.range h.nx⟩)).K fun r=>(k r).G x)→RA h.nx F φ h.get w fn.ntmps st a' w'→a'.defers=[]∧∃cv,(results fn a'.tmps).run P w' = .ok cv w'∧bY (fun i=>i<h.nx) F φ h w (fun r=>(k r).G x) (.returned cv) w':=by
   rintro e' st hk ⟨N,F',φ',hN,hR,hG⟩
   obtain⟨v,h4,h5,_⟩:=hfin _ _ hk
   obtain⟨cv,h6,h7⟩:=jE hR h4
   obtain⟨r,h8,h9⟩:=(Out.bP _ _).1 h5
   have hnx:h.nx≤st.hp.nx:=by
    rcases lg h.nx with h0 | h0
    ·omega
    ·have:= hN (h.nx-1) (hG.names _ (show h.nx-1<h.nx by omega));omega
   have hres:Res (fun i=>i<h.nx) F φ h w (·= (v,⟨st.hp.h,st.hp.nx,List.range h.nx⟩)) cv w':=by
    refine⟨v,⟨st.hp.h,st.hp.nx,List.range h.nx⟩,N,F',φ',rfl,h7,hR.heap,⟨hG,⟨hnx,List.range h.nx,by rw[hwr,jy],fun i hi1 hi2=>?_⟩,fun i hi=>?_⟩⟩
    ·simp only[List.mem_range,Nat.not_lt] at hi1
     have h1:∀(H:Nat→Option (O reg.T)) (N:Nat→Prop) (F:Nat→Prop) (φ:Phi) (w:World) (n:Nat),iX reg F φ N H w→(∀i,N i→i<n)→n≤i→H i=none:=by
      intro H N F φ w n hH hN hi
      cases hHi:H i with
      | none=>rfl
      | some o=>have:= hN i (hH.lt i o hHi);omega
     have hi2:st.hp.nx≤i:=by
      have hi2:¬(h.nx≤i∧i<st.hp.nx):=hi2
      omega
     have e1:=h1 h.get _ F φ w h.nx hH (fun i hi=>hi) hi1
     have e2:st.hp.get i=none:=h1 st.hp.get N F' φ' w' st.hp.nx hR.heap hN hi2
     rw[e1];exact e2
    ·by_cases h1:i<h.nx
     ·exact .inl h1
     ·exact .inr ⟨by omega,hN i hi⟩
   obtain⟨v2,h2',N2,F2,φ2,e2,a,b,c⟩:=(rF h8).2 _ F φ w cv w' hres
   exact⟨hR.dfs,cv,h6,cv,rfl,v2,h2',N2,F2,φ2,e2▸h9,a,b,c⟩
  have split:∀(e':aH) st,(DT.bI ((iW P fn (e',st)).bind fun q=>fZ reg h (q.1,⟨q.2.h,q.2.nx,List.range h.nx⟩)) k).G x→(iW P fn (e',st)).K (fun q=>(fZ reg h (q.1,⟨q.2.h,q.2.nx,List.range h.nx⟩)).K fun r=>(k r).G x):=by
   intro e' st hk
   have:= DT.dH hk
   rw[Out.aU] at this
   exact this
  cases e with
  | normal=>obtain⟨st,hq,_,_,hR⟩:=he;exact fin _ st (split _ _ hq) hR
  | ret=>obtain⟨st,hq,_,_,hR⟩:=he;exact fin _ st (split _ _ hq) hR
  | exit id =>
   obtain⟨st,hq,_,_,hR⟩:=he
   obtain⟨_,_,_,h6⟩:=hfin _ _ (split _ _ hq)
   exact(h6 id rfl).elim
  | goto l=>exact he.elim
  | panic ch=>exact he.elim
  | outgrown=>exact he.elim
 ·exact hq.elim
theorem qIG(hm:P.follows .mixedOrders=true)(hHd:bT P hd){fuel:Nat}{L J:Nat→St reg.T→Option (List Ld)}{f:FuncId}{fn:Func}(hfn:P.funcs[f]? = some fn)(ht:There P f){ka kr:List Kd}(hkr:kr.all bK=true){pre:Cs reg ka→Bool}{M:Cs reg ka→Cs reg kr}
  (h:∀a,pre a=true→(qDz reg P hd fuel L J fn (uI reg ka a) ⟨.e,0,[]⟩ (qIF reg kr)).G (M a)):pX P f (uR reg ka kr pre M):=by
 refine⟨ht,fun a hp F φ w cargs hH hl q hq=>?_⟩
 have hq:(encR reg kr (M a),([]:List (Option (O reg.T))))=q:=hq
 subst hq
 refine(qD1 hm hHd hfn (h:=lJ []) rfl (h a hp) hH hl).mono fun e w' he=>?_
 obtain⟨cv,he,v,h',N',F',φ',hq',hv,hH',hG⟩:=he
 refine⟨cv,he,v,h',N',F',φ',?_,hv,hH',hG⟩
 unfold qIF at hq'
 split at hq'
 ·rename_i b x hx
  obtain⟨_,hq'⟩:=kN hq'
  have hq':x=M a:=hq'
  subst hq'
  exact qBr hx hkr
 ·exact hq'.elim
end
end Go.W
namespace Go.W
open Go Go.RowKit
def qE4{T:Nat→Type}:V T→List Nat→List Nat
 | .agg vs,l=>goL vs l
 | _,l=>l
where goL {T:Nat→Type}:List (V T)→List Nat→List Nat
 | [],l=>l
 | v::vs,l=>goL vs (match v with
  | .sl i _ _ _=>addN l i
  | v=>qE4 v l)
def qKc{T:Nat→Type}:List (V T)→List Nat→List Nat
 | [],l=>l
 | v::vs,l=>qKc vs (match v with
  | .sl i _ _ _=>addN l i
  | v=>qE4 v l)
section
variable (reg:Reg)
def fO(args:List (V reg.T))(h:Hp reg.T):Out (List (V reg.T)×Hp reg.T):=match qKc args [] with
 | []=>.ret (args,h)
 | i::l=>(rE reg (List.range h.nx) (qHe h.get (i::l)) (.tup args,h)).bind fun r=>(match r.1 with
  | .tup vs=>.ret (vs,r.2)
  | _=>.bad)
def fzC(C:Con reg.T):Con reg.T:=fun f=>(match C f with
 | some S=>some fun args h=>(fO reg args h).bind fun q=>S q.1 q.2
 | none=>none)
end
section
variable {reg:Reg} {P:Program}
theorem vK{args:List (V reg.T)}{h:Hp reg.T}{q:List (V reg.T)×Hp reg.T}(hK:(fO reg args h).K (·= q)):h.nx≤q.2.nx∧∀N F φ w cargs,HR N F φ h w→eF F w φ args cargs →
  ∃N' F' φ',eF F' w φ' q.1 cargs∧HR N' F' φ' q.2 w∧GO N F φ h w N' F' φ' q.2 w:=by
 unfold fO at hK
 split at hK
 ·cases hK
  exact⟨dh _,fun N F φ w cargs hH hl=>⟨N,F,φ,hl,hH,GO.refl hH⟩⟩
 ·rw[Out.aU] at hK
  obtain⟨r,h1,h2⟩:=(Out.bP _ _).1 hK
  have ht:=nV (h0:=h) h1
  split at h2
  ·rename_i vs hv
   cases h2
   refine⟨ht.1,fun N F φ w cargs hH hl=>?_⟩
   obtain⟨v2,h2',N',F',φ',e,hv',hH',hG⟩:=ht.2 N F φ w (.tuple cargs) w ⟨_,h,N,F,φ,rfl,.tup args cargs hl.1 hl.2,hH,GO.refl hH⟩
   subst e
   have hv:v2=.tup vs:=hv
   subst hv
   cases hv' with
   | tup _ _ hz hh=>exact⟨N',F',φ',⟨hz,hh⟩,hH',hG⟩
  ·exact h2.elim
end
def qOl{T:Nat→Type}:D T→Bool
 | .bool _=>true
 | .int _ _=>true
 | .str _=>true
 | _=>false
def qAg{T:Nat→Type}:V T→Bool
 | .d x=>qOl x
 | .agg vs=>goL vs
 | .tup vs=>goL vs
 | _=>false
where goL {T:Nat→Type}:List (V T)→Bool
 | []=>true
 | v::vs=>qAg v&&goL vs
def lT(reg:Reg)(ka kr:List Kd)(pre:Cs reg ka→Bool)(M:Cs reg ka→Cs reg kr)(args:List (V reg.T))(h:Hp reg.T):Out (V reg.T×Hp reg.T) :=
 (fO reg args h).bind fun q=>(match lS reg ka q.1 q.2.get with
  | some (a,_)=>.need (pre a) (.ret (encR reg kr (M a),h))
  | none=>.bad)
section
variable {reg:Reg} {P:Program}
theorem yV{T:Nat→Type}:∀{vs:List (V T)},qAg.goL vs=true→∀j,j<vs.length→qAg (vs.getD j .any)=true
 | [],_,j,hj=>by simp at hj
 | v::vs,h,j,hj=>by
  simp only[qAg.goL,bu] at h
  cases j with
  | zero=>exact h.1
  | succ j=>simpa using yV h.2 j (by simpa using hj)
theorem qIH{F F':Nat→Prop}{w w':World}{x:D reg.T}{cv:Value}(h:dQ reg F w x cv):qOl x=true→dQ reg F' w' x cv:=by
 cases h with
 | bool b=>intro _;exact .bool b
 | int k n=>intro _;exact .int k n
 | str s=>intro _;exact .str s
 | nilp=>intro h;cases h
 | nilm=>intro h;cases h
 | nilf=>intro h;cases h
 | nili=>intro h;cases h
 | nils=>intro h;cases h
 | emp x hx hl b c=>intro h;cases x<;>first | (cases hx;done) | (cases h;done)
 | sl x n a cap C t fz hx=>intro h;cases x<;>first | (cases hx;done) | (cases h;done)
theorem qKd{F F':Nat→Prop}{w w':World}{φ φ':Phi}{v:V reg.T}{cv:Value}(h:aA reg F w φ v cv):qAg v=true→aA reg F' w' φ' v cv:=by
 induction h with
 | d x v hd=>intro hf;exact .d x v (qIH hd hf)
 | agg vs cs hz _ ih=>intro hf;exact .agg vs cs hz fun j hj=>ih j hj (yV hf j hj)
 | tup vs cs hz _ ih=>intro hf;exact .tup vs cs hz fun j hj=>ih j hj (yV hf j hj)
 | ptr=>intro hf;cases hf
 | fp=>intro hf;cases hf
 | sl=>intro hf;cases hf
 | slz=>intro hf;cases hf
 | mp=>intro hf;cases hf
 | it=>intro hf;cases hf
 | fn=>intro hf;cases hf
 | ifc=>intro hf;cases hf
 | undef=>intro hf;cases hf
 | any=>intro hf;cases hf
theorem qM9{f:FuncId}{ka kr:List Kd}{pre:Cs reg ka→Bool}{M:Cs reg ka→Cs reg kr}(hS:pX P f (uR reg ka kr pre M))(hk:ka.all bK=true)(hfl:∀a,qAg (encR reg kr (M a))=true):∀args h Q,(lT reg ka kr pre M args h).K Q →
  There P f∧∀N F φ w cargs,(∀r,Q r→bX N h.nx r.2.nx)→HR N F φ h w→eF F w φ args cargs→Calls P f cargs w (bY N F φ h w Q):=by
 intro args h Q hq
 unfold lT at hq
 rw[Out.aU] at hq
 obtain⟨q,h1,h2⟩:=(Out.bP _ _).1 hq
 split at h2
 ·rename_i a ρ hfd
  obtain⟨hp,hQ⟩:=Out.aO.1 h2
  refine⟨hS.1,fun N F φ w cargs _ hH hl=>?_⟩
  obtain⟨N',F',φ',hl',hH',hG'⟩:=(vK h1).2 N F φ w cargs hH hl
  have hc:gB.goL (at0 0 ρ) (uI reg ka a) q.1∧ρ=[]:=by
   unfold lS at hfd
   split at hfd
   ·rename_i x hx
    cases hfd
    exact⟨(oD hx hk).1 _,rfl⟩
   ·cases hfd
  obtain⟨hc,rfl⟩:=hc
  have hl0:eF F' w (iT (at0 0 []) φ') (uI reg ka a) cargs:=by
   obtain⟨e1,e2⟩:=wR hc
   exact⟨by rw[e1];exact hl'.1,fun j hj=>(jV (hl'.2 j (by omega)) (e2 j hj)).1⟩
  have hn:∀i,iT (at0 0 []) φ' i=none:=fun i=>rfl
  have hc0:iX reg F' (iT (at0 0 []) φ') (fun j=>j<0) (lJ ([]:List (O reg.T))).get w:=by
   have he:∀j,(lJ ([]:List (O reg.T))).get j=none:=fun j=>rfl
   refine⟨fun j o ho=>?_,fun j o b s k ho=>?_,fun j j' o o' b s1 k1 s2 k2 hj=>?_,fun j p hp=>?_,fun j o ho=>?_,fun j hj=>(p8 _ hj).elim,hH'.frz,hH'.lay⟩
   ·rw[he] at ho;cases ho
   ·rw[he] at ho;cases ho
   ·rw[he] at hj;cases hj
   ·rw[hn] at hp;cases hp
   ·rw[he] at ho;cases ho
  refine(hS.2 a hp F' _ w cargs hc0 hl0 (encR reg kr (M a),[]) rfl).mono fun e w' he=>?_
  obtain⟨cv,he,v1,h1',N1,F1,φ1,hcov,hv,hP,hG⟩:=he
  refine⟨cv,he,?_⟩
  have hcv:=((aK _ _).1 hcov).2.1
  have hv2:=(jV hv hcv).1
  have hblk:∀b,b<w.heap.size→w'.heap[b]? = w.heap[b]?:=fun b hb=>hG.goes.block b hb (fun⟨i,o,s,k,hi,_⟩=>by cases hi)
  have hall:∀b,F b∨bR reg φ h.get b→w'.heap[b]? = w.heap[b]?:=by
   rintro b (hb | ⟨i,o,s,k,hi,hpi⟩)
   ·exact hblk b (hH.frz b hb)
   ·exact hblk b (hH.own i o b s k hi hpi).2
  have hH2:=iX.later hH hG.goes.size hall
  exact⟨encR reg kr (M a),h,N,F,φ,hQ,qKd hv2 (hfl a),hH2,⟨⟨hG.goes.os,hG.goes.tape,hG.goes.output,hG.goes.size,fun b hb _=>hblk b hb,fun b hb=>hb,fun b hb=>.inl hb,fun i hi=>rfl,fun i hi=>hi,fun b hb=>.inl hb,fun i p hp=>.inl (hH.dom i p hp)⟩,Grow.refl h,fun i hi=>.inl hi⟩⟩
 ·exact h2.elim
end
end Go.W
namespace Go.W
open Go
namespace DT
theorem qE5{σ α:Type}{B:σ→σ ⊕ α→Prop}(hB:∀s y z,B s y→B s z→y=z):∀(n m:Nat) (s:σ) (x y:α),rM B n s x→rM B m s y→x=y
 | 0,_,_,_,_,h,_=>h.elim
 | _+1,0,_,_,_,_,h=>h.elim
 | n+1,m+1,s,x,y,⟨u,h1,h2⟩,⟨v,h3,h4⟩=>by
  have:= hB _ _ _ h1 h3
  subst this
  cases u with
  | inl s'=>exact qE5 hB n m s' x y h2 h4
  | inr a =>
   have h2:a=x:=h2
   have h4:a=y:=h4
   rw[←h2,←h4]
theorem qQI:∀{α:Type} {t:DT α} {x y:α},t.G x→t.G y→x=y:=by
 intro α t
 induction t with
 | ret a =>
  intro x y h1 h2
  have h1:a=x:=h1
  have h2:a=y:=h2
  rw[←h1,←h2]
 | need b t ih=>intro x y h1 h2;exact ih ((aK _ _).1 h1).2 ((aK _ _).1 h2).2
 | br b t u iht ihu =>
  intro x y h1 h2
  cases b with
  | true=>exact iht h1 h2
  | false=>exact ihu h1 h2
 | both t u iht _=>intro x y h1 h2;exact iht h1.1 h2.1
 | bad=>intro x y h1;exact h1.elim
 | loop s body ih =>
  intro x y ⟨n,h1⟩ ⟨m,h2⟩
  exact qE5 (fun s y z h3 h4=>ih s h3 h4) n m s x y h1 h2
 | join t k iht ihk =>
  intro x y h1 h2
  obtain⟨u,h3,h4⟩:=iM.1 h1
  obtain⟨v,h5,h6⟩:=iM.1 h2
  have:= iht h3 h5
  subst this
  cases u with
  | inl s=>exact ihk s h4 h6
  | inr a =>
   have h4:a=x:=h4
   have h6:a=y:=h6
   rw[←h4,←h6]
open Classical in
def val{α:Type}(t:DT α):Option α:=if h:∃x,t.G x then some (Classical.choose h) else none
theorem qKe{α:Type}{t:DT α}{x:α}(h:t.G x):t.val=some x:=by
 have he:∃x,t.G x:=⟨x,h⟩
 unfold val
 rw[dif_pos he,qQI (nk he) h]
theorem qKf{α:Type}{t:DT α}{d:α}(h:t.val.isSome=true):t.G (t.val.getD d):=by
 unfold val at h ⊢
 by_cases he:∃x,t.G x
 ·rw[dif_pos he];exact nk he
 ·rw[dif_neg he] at h;cases h
end DT
def hide{α:Type}(f:α):α:=Classical.choose (⟨f,rfl⟩:∃g:α,g=f)
theorem qHf{α:Type}(f:α):hide f=f:=nk (⟨f,rfl⟩:∃g:α,g=f)
theorem wX{α β:Type}{f:α→β}(a:α):hide f a=f a:=congrFun (qHf f) a
end Go.W
