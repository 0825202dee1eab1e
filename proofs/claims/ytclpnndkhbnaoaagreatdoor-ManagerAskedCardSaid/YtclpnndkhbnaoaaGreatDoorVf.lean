/- Part of the proof: texts DT DU. No conditions. -/
import Derived.Test.YtclpnndkhbnaoaaGreatDoorVe
set_option linter.all false
namespace Go.W
open Go Go.RowKit
inductive DT:Type→Type 1
 | ret {α:Type} (a:α):DT α
 | need {α:Type} (b:Bool) (t:DT α):DT α
 | br {α:Type} (b:Bool) (x y:DT α):DT α
 | both {α:Type} (x y:DT α):DT α
 | bad {α:Type}:DT α
 | loop {α σ:Type} (s:σ) (body:σ→DT (σ ⊕ α)):DT α
 | join {α σ:Type} (t:DT (σ ⊕ α)) (k:σ→DT α):DT α
namespace DT
def map:{α:Type}→DT α→{β:Type}→(α→β)→DT β
 | _,.ret a,_,f=>.ret (f a)
 | _,.need b t,_,f=>.need b (t.map f)
 | _,.br b x y,_,f=>.br b (x.map f) (y.map f)
 | _,.both x y,_,f=>.both (x.map f) (y.map f)
 | _,.bad,_,_=>.bad
 | _,.loop s body,_,f=>.loop s fun s=>(body s).map (Sum.map id f)
 | _,.join t k,_,f=>.join (t.map (Sum.map id f)) fun s=>(k s).map f
 termination_by structural _ t=>t
def qOP{σ α:Type}(P:σ→Prop)(x:α):σ ⊕ α→Prop
 | .inl s=>P s
 | .inr a=>a=x
def rM{σ α:Type}(B:σ→σ ⊕ α→Prop):Nat→σ→α→Prop
 | 0,_,_=>False
 | n+1,s,x=>∃y,B s y∧qOP (fun s'=>rM B n s' x) x y
def G:{α:Type}→DT α→α→Prop
 | _,.ret a,x=>a=x
 | _,.need b t,x=>must b (t.G x)
 | _,.br b t u,x=>branch b (t.G x) (u.G x)
 | _,.both t u,x=>t.G x∧u.G x
 | _,.bad,_=>False
 | _,.loop s body,x=>∃n,rM (fun s y=>(body s).G y) n s x
 | _,.join t k,x=>∃y,t.G y∧qOP (fun s=>(k s).G x) x y
 termination_by structural _ t=>t
theorem iM{α σ:Type}{t:DT (σ ⊕ α)}{k:σ→DT α}{x:α}:(DT.join t k).G x↔∃y,t.G y∧qOP (fun s=>(k s).G x) x y:=Iff.rfl
theorem lK{α σ:Type}{s:σ}{body:σ→DT (σ ⊕ α)}{x:α}:(DT.loop s body).G x↔∃n,rM (fun s y=>(body s).G y) n s x:=Iff.rfl
theorem qGZ{σ α β:Type}{f:α→β}(hf:∀a b,f a=f b→a=b):∀a b:σ ⊕ α,Sum.map id f a=Sum.map id f b→a=b:=by
 intro a b h
 cases a<;>cases b<;>simp only[Sum.map_inl,Sum.map_inr,id,Sum.inl.injEq,Sum.inr.injEq,reduceCtorEq] at h
 ·rw[h]
 ·rw[hf _ _ h]
theorem qHa:∀{α:Type} (t:DT α) {β:Type} (f:α→β) (hf:∀a b,f a=f b→a=b) (y:β),(t.map f).G y→∃x,t.G x∧f x=y:=by
 intro α t
 induction t with
 | ret a=>intro β f hf y h;exact⟨a,rfl,h⟩
 | need b t ih =>
  intro β f hf y h
  obtain⟨h0,h⟩:=(aK _ _).1 h
  obtain⟨x,h1,h2⟩:=ih f hf y h
  exact⟨x,(aK _ _).2 ⟨h0,h1⟩,h2⟩
 | br b t u iht ihu =>
  intro β f hf y h
  cases b with
  | true=>obtain⟨x,h1,h2⟩:=iht f hf y h;exact⟨x,h1,h2⟩
  | false=>obtain⟨x,h1,h2⟩:=ihu f hf y h;exact⟨x,h1,h2⟩
 | both t u iht ihu =>
  intro β f hf y h
  obtain⟨x,h1,h2⟩:=iht f hf y h.1
  obtain⟨x',h3,h4⟩:=ihu f hf y h.2
  have:= hf _ _ (h2.trans h4.symm)
  subst this
  exact⟨x,⟨h1,h3⟩,h2⟩
 | bad=>intro β f hf y h;exact h.elim
 | loop s body ih =>
  intro β f hf y h
  obtain⟨n,h⟩:=h
  have key:∀(n:Nat) s,rM (fun s y=>((body s).map (Sum.map id f)).G y) n s y→∃x,rM (fun s y=>(body s).G y) n s x∧f x=y:=by
   intro n
   induction n with
   | zero=>intro s h;exact h.elim
   | succ n ihn =>
    intro s ⟨z,h1,h2⟩
    obtain⟨z',h3,h4⟩:=ih s _ (qGZ hf) z h1
    cases z' with
    | inl s' =>
     cases h4
     obtain⟨x,h5,h6⟩:=ihn s' h2
     exact⟨x,⟨.inl s',h3,h5⟩,h6⟩
    | inr a =>
     cases h4
     exact⟨a,⟨.inr a,h3,rfl⟩,h2⟩
  obtain⟨x,h1,h2⟩:=key n s h
  exact⟨x,lK.2 ⟨n,h1⟩,h2⟩
 | join t k iht ihk =>
  intro β f hf y h
  obtain⟨z,h1,h2⟩:=h
  obtain⟨z',h3,h4⟩:=iht _ (qGZ hf) z h1
  cases z' with
  | inl s =>
   cases h4
   obtain⟨x,h5,h6⟩:=ihk s f hf y h2
   exact⟨x,iM.2 ⟨.inl s,h3,h5⟩,h6⟩
  | inr a =>
   cases h4
   exact⟨a,iM.2 ⟨.inr a,h3,rfl⟩,h2⟩
def bI{α β:Type}:Out α→(α→DT β)→DT β
 | .ret a,k=>k a
 | .need b o,k=>.need b (bI o k)
 | .br b x y,k=>.br b (bI x k) (bI y k)
 | .bad,_=>.bad
theorem dH{α β:Type}{o:Out α}{k:α→DT β}{x:β}:(bI o k).G x→o.K fun a=>(k a).G x:=by
 induction o with
 | ret a=>exact id
 | need b o ih=>intro h;obtain⟨h0,h⟩:=(aK _ _).1 h;exact(aK _ _).2 ⟨h0,ih h⟩
 | br b u v ihu ihv =>
  intro h
  cases b with
  | true=>exact ihu h
  | false=>exact ihv h
 | bad=>exact id
end DT
section
universe u
variable {T:Nat→Type} {β:Sort u}
def qBe(n:Nat)(k:Nat→β):β:=match n with
 | 0=>k 0
 | m+1=>k (m+1)
theorem gK(n:Nat)(k:Nat→β):qBe n k=k n:=by cases n<;>rfl
def dS(x:D T)(k:D T→β):β:=match x with
 | .bool b=>k (.bool b)
 | .int i n=>k (.int i n)
 | .str s=>k (.str s)
 | .nilp=>k .nilp
 | .nilm=>k .nilm
 | .nilf=>k .nilf
 | .nili=>k .nili
 | .nils=>k .nils
 | .sl e xs=>k (.sl e xs)
 | .usl i xs=>k (.usl i xs)
theorem qQF(x:D T)(k:D T→β):dS x k=k x:=by cases x<;>rfl
def qQG(c:Cap)(k:Cap→β):β:=match c with
 | .exact n=>k (.exact n)
 | .least n=>k (.least n)
theorem qM5(x:Cap)(k:Cap→β):qQG x k=k x:=by cases x<;>rfl
def vS{β:Sort u}:V T→(V T→β)→β
 | .d x,k=>dS x fun x=>k (.d x)
 | .ptr i r o,k=>qBe i fun i=>k (.ptr i r o)
 | .fp row o,k=>k (.fp row o)
 | .sl i off len cap,k=>qBe i fun i=>qQG cap fun cap=>k (.sl i off len cap)
 | .mp i,k=>qBe i fun i=>k (.mp i)
 | .it i,k=>qBe i fun i=>k (.it i)
 | .fn f vs us,k=>goL vs fun vs=>goL us fun us=>k (.fn f vs us)
 | .ifc t v,k=>vS v fun v=>k (.ifc t v)
 | .agg vs,k=>goL vs fun vs=>k (.agg vs)
 | .tup vs,k=>goL vs fun vs=>k (.tup vs)
 | .undef,k=>k .undef
 | .any,k=>k .any
where goL {β:Sort u}:List (V T)→(List (V T)→β)→β
 | [],k=>k []
 | v::vs,k=>vS v fun v=>goL vs fun vs=>k (v::vs)
theorem wU:∀(v:V T) (k:V T→β),vS v k=k v:=by
 have key:∀(n:Nat) (v:V T),SizeOf.sizeOf v<n→∀{β:Sort u} (k:V T→β),vS v k=k v:=by
  intro n
  induction n with
  | zero=>intro v h;omega
  | succ n ih =>
   have goL:∀vs:List (V T),SizeOf.sizeOf vs<n+1→∀{β:Sort u} (k:List (V T)→β),vS.goL vs k=k vs:=by
    intro vs
    induction vs with
    | nil=>intro _ β k;rfl
    | cons v vs ihv =>
     intro hs β k
     simp only[ny] at hs
     simp only[vS.goL]
     rw[ih v (by omega),ihv (by omega)]
   intro v hv β k
   cases v<;>simp only[vS]
   case d x=>rw[qQF]
   case ptr i r o=>rw[gK]
   case sl i off len cap=>rw[gK,qM5]
   case mp i=>rw[gK]
   case it i=>rw[gK]
   case fn f vs us=>simp only[V.fn.sizeOf_spec] at hv;rw[goL vs (by omega),goL us (by omega)]
   case ifc t v=>simp only[V.ifc.sizeOf_spec] at hv;rw[ih v (by omega)]
   case agg vs=>simp only[V.agg.sizeOf_spec] at hv;rw[goL vs (by omega)]
   case tup vs=>simp only[V.tup.sizeOf_spec] at hv;rw[goL vs (by omega)]
 intro v k
 exact key (SizeOf.sizeOf v+1) v (by omega) k
theorem qHb:∀(vs:List (V T)) (k:List (V T)→β),vS.goL vs k=k vs
 | [],k=>rfl
 | v::vs,k=>by simp only[vS.goL];rw[wU,qHb vs]
def qHc{β:Sort u}:List (List (V T))→(List (List (V T))→β)→β
 | [],k=>k []
 | r::rs,k=>vS.goL r fun r=>qHc rs fun rs=>k (r::rs)
theorem qEy:∀(rs:List (List (V T))) (k:List (List (V T))→β),qHc rs k=k rs
 | [],k=>rfl
 | r::rs,k=>by simp only[qHc];rw[qHb,qEy rs]
def oS:O T→(O T→β)→β
 | .rows n xs,k=>qHc xs fun xs=>k (.rows n xs)
 | .trows e xs,k=>k (.trows e xs)
 | .map c es,k=>k (.map c es)
 | .sit s p,k=>k (.sit s p)
 | .mit m a b c,k=>k (.mit m a b c)
theorem qC1(o:O T)(k:O T→β):oS o k=k o:=by cases o<;>simp only[oS];rw[qEy]
def qOQ{α:Type}(f:α→(α→β)→β):Option α→(Option α→β)→β
 | none,k=>k none
 | some x,k=>f x fun x=>k (some x)
def trS{α:Type}(f:α→(α→β)→β):Tr α→(Tr α→β)→β
 | .e,k=>k .e
 | .n l v r,k=>trS f l fun l=>qOQ f v fun v=>trS f r fun r=>k (.n l v r)
theorem qM6{α:Type}{f:α→(α→β)→β}(hf:∀x k,f x k=k x)(x:Option α)(k:Option α→β):qOQ f x k=k x:=by cases x<;>simp only[qOQ];rw[hf]
theorem iD{α:Type}{f:α→(α→β)→β}(hf:∀x k,f x k=k x):∀(t:Tr α) (k:Tr α→β),trS f t k=k t
 | .e,k=>rfl
 | .n l v r,k=>by simp only[trS];rw[iD hf l,qM6 hf,iD hf r]
def lnS{β:Sort u}:List Nat→(List Nat→β)→β
 | [],k=>k []
 | n::l,k=>qBe n fun n=>lnS l fun l=>k (n::l)
theorem vF:∀(l:List Nat) (k:List Nat→β),lnS l k=k l
 | [],k=>rfl
 | n::l,k=>by simp only[lnS];rw[gK,vF l]
def stS(st:St T)(k:St T→β):β:=trS vS st.env fun env=>trS oS st.hp.h fun h=>qBe st.hp.nx fun n=>lnS st.hp.wr fun wr=>k ⟨env,⟨h,n,wr⟩⟩
theorem qBf(st:St T)(k:St T→β):stS st k=k st:=by
 unfold stS
 rw[iD wU,iD qC1,gK,vF]
end
inductive CD where
 | str (s:List UInt8)
 | nils
inductive Kd where
 | cst (c:CD)
 | int (k:IntKind)
 | bool
 | str
 | dat (e:Nat)
 | own (m e:Nat) (cut:Bool)
 | rcd (e:Nat)
inductive Ld where
 | slot (t:Nat) (k:Kd)
 | obj (i:Nat) (ks:List Kd)
 | rows (i e:Nat)
 | ptr (t m:Nat) (ks:List Kd)
 | sit (i:Nat)
 | gone (i:Nat)
def isRec:Kd→Bool
 | .rcd _=>true
 | _=>false
def Kd.names:Kd→List Nat
 | .own m _ _=>[m]
 | _=>[]
def Ld.names:Ld→List Nat
 | .slot _ k=>k.names
 | .obj i ks=>i::ks.flatMap Kd.names
 | .rows i _=>[i]
 | .ptr _ m ks=>m::ks.flatMap Kd.names
 | .sit i=>[i]
 | .gone i=>[i]
def Ld.slots:Ld→List Nat
 | .slot t _=>[t]
 | .obj _ _=>[]
 | .rows _ _=>[]
 | .ptr t _ _=>[t]
 | .sit _=>[]
 | .gone _=>[]
abbrev Rho:=List (Nat×Option Nat)
abbrev Ob:=Option Bool
def okO:Ob→Bool
 | none=>true
 | some b=>b
def qFR:Ob→Ob→Ob
 | none,b=>b
 | some a,none=>some a
 | some a,some b=>some (a&&b)
theorem wV{a b:Ob}(h:okO (qFR a b)=true):okO a=true∧okO b=true:=by
 cases a<;>cases b<;>simp_all [qFR,okO]
def wW{α:Type}(b:Ob)(t:DT α):DT α:=match b with
 | none=>t
 | some b=>.need b t
theorem kN{α:Type}{b:Ob}{t:DT α}{x:α}(h:(wW b t).G x):okO b=true∧t.G x:=by
 cases b with
 | none=>exact⟨rfl,h⟩
 | some b=>exact(aK _ _).1 h
section
variable (reg:Reg)
def CD.enc{T:Nat→Type}:CD→D T
 | .str s=>.str s
 | .nils=>.nils
def CD.is{T:Nat→Type}:CD→D T→Bool
 | .str s,.str t=>s==t
 | .nils,.nils=>true
 | _,_=>false
def Kd.T:Kd→Type
 | .cst _=>Unit
 | .int _=>Int
 | .bool=>Bool
 | .str=>List UInt8
 | .dat e=>List (reg.T e)
 | .own _ e _=>List (reg.T e)
 | .rcd e=>reg.T e
def Kd.enc:(k:Kd)→k.T reg→List (V reg.T)
 | .cst c,_=>[.d c.enc]
 | .int k,x=>[.d (.int k x)]
 | .bool,x=>[.d (.bool x)]
 | .str,x=>[.d (.str x)]
 | .dat e,x=>[.d (.sl e x)]
 | .own m _ _,x=>[.sl m 0 (List.length x) (.least 0)]
 | .rcd e,x=>(reg.enc e x).map .d
def fM(k:Kd)(o:Option Nat)(l:Rho):Rho:=match k with
 | .own m _ _=>(m,o)::l
 | _=>l
def Kd.read(k:Kd)(cs:List (V reg.T))(g:Nat→Option (O reg.T)):Option (Ob×k.T reg×Option Nat):=match k with
 | .cst c=>(match cs with
  | [.d x]=>(match c.is x with | true=>some (none,(),none) | false=>none)
  | _=>none)
 | .int k=>(match cs with
  | [.d (.int k' n)]=>(match sameKind k k' with | true=>some (none,n,none) | false=>none)
  | _=>none)
 | .bool=>(match cs with
  | [.d (.bool b)]=>some (none,b,none)
  | _=>none)
 | .str=>(match cs with
  | [.d (.str s)]=>some (none,s,none)
  | _=>none)
 | .dat e=>(match cs with
  | [.d (.sl e' xs)]=>(match qP xs e with | some ys=>some (none,ys,none) | none=>none)
  | [.d .nils]=>some (none,[],none)
  | _=>none)
 | .own _ e cut=>(match cs with
  | [.d .nils]=>some (none,[],none)
  | [.sl j 0 len _]=>(match g j with
   | some (.trows e' xs)=>(match qP xs e with
    | some ys=>(match cut with
     | true=>some (some (Nat.ble len ys.length),ys.take len,some j)
     | false=>some (some (Nat.beq len ys.length),ys,some j))
    | none=>none)
   | _=>none)
  | _=>none)
 | .rcd e=>(match cB cs with | some l=>(match reg.dec e l with | some x=>some (none,x,none) | none=>none) | none=>none)
def Cs:List Kd→Type
 | []=>Unit
 | k::ks=>k.T reg×Cs ks
def Ld.T:Ld→Type
 | .slot _ k=>k.T reg
 | .obj _ ks=>Cs reg ks
 | .rows _ e=>List (reg.T e)
 | .ptr _ _ ks=>Cs reg ks
 | .sit _=>List UInt8×Nat×Unit
 | .gone _=>Unit
def Sg:List Ld→Type
 | []=>Unit
 | l::ls=>l.T reg×Sg ls
def Cs.enc:(ks:List Kd)→Cs reg ks→List (V reg.T)
 | [],_=>[]
 | k::ks,x=>k.enc reg x.1++Cs.enc ks x.2
def Kd.aL(k:Kd)(x:k.T reg):List (Nat×O reg.T):=match k,x with
 | .own m e _,x=>[(m,.trows e x)]
 | _,_=>[]
def Cs.aL:(ks:List Kd)→Cs reg ks→List (Nat×O reg.T)
 | [],_=>[]
 | k::ks,x=>k.aL reg x.1++Cs.aL ks x.2
def qBg(k:Kd)(x:k.T reg):V reg.T:=match isRec k with
 | true=>.agg (k.enc reg x)
 | false=>(k.enc reg x).headD .any
def Ld.vals:(l:Ld)→l.T reg→List (Nat×V reg.T)
 | .slot t k,x=>[(t,qBg reg k x)]
 | .obj _ _,_=>[]
 | .rows _ _,_=>[]
 | .ptr t m _,_=>[(t,.ptr m 0 0)]
 | .sit _,_=>[]
 | .gone _,_=>[]
def Ld.aL:(l:Ld)→l.T reg→List (Nat×O reg.T)
 | .slot _ k,x=>k.aL reg x
 | .obj i ks,x=>(i,.rows (Cs.enc reg ks x).length [Cs.enc reg ks x])::Cs.aL reg ks x
 | .rows i e,x=>[(i,.trows e x)]
 | .ptr _ m ks,x=>(m,.rows (Cs.enc reg ks x).length [Cs.enc reg ks x])::Cs.aL reg ks x
 | .sit i,x=>[(i,.sit x.1 x.2.1)]
 | .gone _,_=>[]
def Sg.vals:(ls:List Ld)→Sg reg ls→List (Nat×V reg.T)
 | [],_=>[]
 | l::ls,x=>l.vals reg x.1++Sg.vals ls x.2
def Sg.aL:(ls:List Ld)→Sg reg ls→List (Nat×O reg.T)
 | [],_=>[]
 | l::ls,x=>l.aL reg x.1++Sg.aL ls x.2
def Kd.w:Kd→Nat
 | .rcd e=>reg.k e
 | _=>1
def jG:(ks:List Kd)→List (V reg.T)→(Nat→Option (O reg.T))→Option (Ob×Cs reg ks×Rho)
 | [],cs,_=>(match cs with | []=>some (none,(),[]) | _=>none)
 | k::ks,cs,g=>(match Nat.ble (k.w reg) cs.length,k.read reg (cs.take (k.w reg)) g,jG ks (cs.drop (k.w reg)) g with
  | true,some (b,x,o),some (b',y,l)=>some (qFR b b',(x,y),fM k o l)
  | _,_,_=>none)
def lL(k:Kd)(v:V reg.T)(g:Nat→Option (O reg.T)):Option (Ob×k.T reg×Option Nat):=match isRec k with
 | true=>(match v with | .agg cs=>k.read reg cs g | _=>none)
 | false=>k.read reg [v] g
def Ld.read:(l:Ld)→St reg.T→Option (Ob×l.T reg×Rho)
 | .slot t k,st=>(match st.env.get t with
  | some v=>(match lL reg k v st.hp.get with
   | some (b,x,o)=>some (b,x,fM k o [])
   | none=>none)
  | none=>none)
 | .obj i ks,st=>(match st.hp.get i with
  | some (.rows _ [cs])=>(match jG reg ks cs st.hp.get with
   | some (b,x,l)=>some (b,x,(i,some i)::l)
   | none=>none)
  | _=>none)
 | .rows i e,st=>(match st.hp.get i with
  | some (.trows e' xs)=>(match qP xs e with
   | some ys=>some (none,ys,[(i,some i)])
   | none=>none)
  | _=>none)
 | .ptr t m ks,st=>(match st.env.get t with
  | some (.ptr j 0 0)=>(match st.hp.get j with
   | some (.rows _ [cs])=>(match jG reg ks cs st.hp.get with
    | some (b,x,l)=>some (b,x,(m,some j)::l)
    | none=>none)
   | _=>none)
  | _=>none)
 | .sit i,st=>(match st.hp.get i with
  | some (.sit s p)=>some (none,(s,p,()),[(i,some i)])
  | _=>none)
 | .gone i,_=>some (none,(),[(i,none)])
def nI:(ls:List Ld)→St reg.T→Option (Ob×Sg reg ls×Rho)
 | [],_=>some (none,(),[])
 | l::ls,st=>(match l.read reg st,nI ls st with
  | some (b,x,r),some (b',y,r')=>some (qFR b b',(x,y),r++r')
  | _,_=>none)
def dJ{α:Type}:List Nat→Tr α→Tr α
 | [],t=>t
 | i::l,t=>(dJ l t).set i none
def Tr.allT{α:Type}(f:α→Bool):Tr α→Bool
 | .e=>true
 | .n l v r=>(match l.allT f with
  | true=>(match v with | some x=>(match f x with | true=>r.allT f | false=>false) | none=>r.allT f)
  | false=>false)
def iV(ρ:Rho)(nx i:Nat):Option Nat:=match aQ ρ i with
 | some o=>o
 | none=>(match Nat.blt i nx with | true=>some i | false=>none)
def lM(ρ:Rho)(nx i:Nat):Bool:=match iV ρ nx i with | some j=>Nat.beq j i | none=>false
def V.kP{T:Nat→Type}(ρ:Rho)(nx:Nat):V T→Bool
 | .ptr i _ _=>lM ρ nx i
 | .sl i _ _ _=>lM ρ nx i
 | .mp i=>lM ρ nx i
 | .it i=>lM ρ nx i
 | .fn _ vs us=>goL ρ nx vs&&goL ρ nx us
 | .ifc _ v=>V.kP ρ nx v
 | .agg vs=>goL ρ nx vs
 | .tup vs=>goL ρ nx vs
 | _=>true
where goL {T:Nat→Type} (ρ:Rho) (nx:Nat):List (V T)→Bool
 | []=>true
 | v::vs=>V.kP ρ nx v&&goL ρ nx vs
def O.kP{T:Nat→Type}(ρ:Rho)(nx:Nat):O T→Bool
 | .rows _ xs=>xs.all (V.kP.goL ρ nx)
 | .trows _ _=>true
 | .map _ es=>es.all fun e=>V.kP ρ nx e.1.1&&V.kP ρ nx e.1.2
 | .sit _ _=>true
 | .mit m _ _ _=>(match m with | some i=>lM ρ nx i | none=>true)
def qOR(ls:List Ld)(n:Nat):Nat:=(ls.flatMap Ld.names).foldl (fun a m=>Nat.max a (m+1)) n
def qAo(D:List Nat)(ls:List Ld)(st:St reg.T)(s:Sg reg ls):St reg.T :=
 ⟨bD (Sg.vals reg ls s) (dJ D st.env),⟨bD (Sg.aL reg ls s) (dJ (ls.flatMap Ld.names) st.hp.h),qOR ls st.hp.nx,ls.flatMap Ld.names++st.hp.wr⟩⟩
def cZ:Rho→List Nat
 | []=>[]
 | (_,some j)::l=>j::cZ l
 | (_,none)::l=>cZ l
def okR(n0 nx nxA:Nat)(ρ:Rho):Bool :=
 Nat.ble n0 nx&&Nat.ble nx nxA&&Tr.ok nxA&&bE (cZ ρ)&&bE (ρ.map (·.1))&&(cZ ρ).all (fun j=>Nat.ble nx j||fI (ρ.map (·.1)) j) &&
  (ρ.map (·.1)).all (fun m=>Nat.blt m nxA)&&ρ.all fun p=>Nat.ble n0 p.1||lM ρ nx p.1
def qHd(st st':St reg.T):List Nat:=st'.hp.wr.take (st'.hp.wr.length-st.hp.wr.length)
def qAp(D:List Nat)(ls:List Ld):Bool :=
 D.all Tr.ok&&(ls.flatMap Ld.slots).all (fI D)&&(ls.flatMap Ld.names).all Tr.ok
def qAb(n0:Nat)(D:List Nat)(ls:List Ld)(st:St reg.T)(ρ:Rho)(st':St reg.T):Bool :=
 okR n0 st.hp.nx (qOR ls st.hp.nx) ρ&&(qHd reg st st').all (fun i=>Nat.ble st.hp.nx i||fI (ls.flatMap Ld.names) i) &&
  (dJ D st.env).allT (V.kP ρ st.hp.nx)&&(dJ (ls.flatMap Ld.names) st.hp.h).allT (O.kP ρ st.hp.nx)
end
section
variable {reg:Reg} {P:Program} {hd:Hd reg.T} {nt:Nat}
theorem dE{α:Type}:∀{l:List Nat} {t:Tr α},(∀i∈l,Tr.ok i=true)→∀j,(dJ l t).get j=if j∈l then none else t.get j
 | [],t,_,j=>by simp[dJ]
 | i::l,t,h,j=>by
  simp only[dJ]
  rw[Tr.dG (h i (by simp)),dE (fun k hk=>h k (by simp[hk]))]
  by_cases e:j=i
  ·subst e;simp
  ·simp[e]
theorem yQ{α:Type}{f:α→Bool}:∀{t:Tr α},t.allT f=true→∀{p:Nat} {x:α},t.uT p=some x→f x=true
 | .e,_,p,x,h=>by simp[Tr.uT] at h
 | .n l v r,ht,p,x,h=>by
  simp only[Tr.allT] at ht
  rw[Tr.pI] at h
  split at ht
  ·rename_i hl
   have hr:(∀y,v=some y→f y=true)∧r.allT f=true:=by
    split at ht
    ·rename_i y
     split at ht
     ·rename_i hy;exact⟨fun z hz=>(by cases hz;exact hy),ht⟩
     ·cases ht
    ·exact⟨fun z hz=>(by cases hz),ht⟩
   split at h
   ·exact hr.1 _ h
   ·split at h
    ·exact yQ hl h
    ·exact yQ hr.2 h
  ·cases ht
theorem wY{α:Type}{f:α→Bool}{t:Tr α}(ht:t.allT f=true){i:Nat}{x:α}(h:t.get i=some x):f x=true:=yQ ht h
def vG(ρ:Rho)(nx:Nat)(φ:Phi):Phi:=fun i=>match iV ρ nx i with | some j=>φ j | none=>none
theorem kS{ρ:Rho}{nx:Nat}{φ:Phi}{i:Nat}{p:Nat×Nat×Nat×Nat}(h:vG ρ nx φ i=some p):∃j,iV ρ nx i=some j∧φ j=some p:=by
 unfold vG at h
 split at h
 ·rename_i j hj;exact⟨j,hj,h⟩
 ·cases h
theorem qC2{ρ:Rho}{nx i:Nat}(h:lM ρ nx i=true):iV ρ nx i=some i:=by
 unfold lM at h
 split at h
 ·rename_i j hj;rw[hj,cz h]
 ·cases h
theorem tJ{ρ:Rho}{nx:Nat}{φ:Phi}{i:Nat}(h:lM ρ nx i=true):vG ρ nx φ i=φ i:=by
 unfold vG;rw[qC2 h]
theorem kT{T:Nat→Type}{ρ:Rho}{nx:Nat}:∀{vs:List (V T)},V.kP.goL ρ nx vs=true→∀j,(vs.getD j .any).kP ρ nx=true
 | [],_,j=>by simp[V.kP]
 | v::vs,h,j=>by
  simp only[V.kP.goL,bu] at h
  cases j with
  | zero=>simpa using h.1
  | succ j=>simpa using kT h.2 j
theorem qAw{ρ:Rho}{nx:Nat}{F:Nat→Prop}{w:World}{φ:Phi}{v:V reg.T}{cv:Value}(h:aA reg F w φ v cv):v.kP ρ nx=true→aA reg F w (vG ρ nx φ) v cv:=by
 induction h with
 | d x v hd=>intro _;exact .d x v hd
 | ptr i r o b s k z hp=>intro hf;exact .ptr i r o b s k z ((tJ hf).trans hp)
 | fp row o a C t fz hFa hb hz hr=>intro _;exact .fp row o a C t fz hFa hb hz hr
 | sl i off len cap b s k z cap' hp hc hl hm' hz=>intro hf;exact .sl i off len cap b s k z cap' ((tJ hf).trans hp) hc hl hm' hz
 | slz i off cap base hc hb=>intro _;exact .slz i off cap base hc hb
 | mp i b s hp=>intro hf;exact .mp i b s ((tJ hf).trans hp)
 | it i b s hp=>intro hf;exact .it i b s ((tJ hf).trans hp)
 | fn f caps fst cs fs hz _ hz' _ ih ih' =>
  intro hf
  simp only[V.kP,bu] at hf
  exact .fn f caps fst cs fs hz (fun j hj=>ih j hj (kT hf.1 j)) hz' (fun j hj=>ih' j hj (kT hf.2 j))
 | agg vs cs hz _ ih=>intro hf;exact .agg vs cs hz fun j hj=>ih j hj (kT hf j)
 | tup vs cs hz _ ih=>intro hf;exact .tup vs cs hz fun j hj=>ih j hj (kT hf j)
 | ifc t v cv _ ih=>intro hf;exact .ifc t v cv (ih hf)
 | undef=>intro _;exact .undef
 | any v=>intro _;exact .any v
theorem qJQ{ρ:Rho}{nx:Nat}{F:Nat→Prop}{w:World}{φ:Phi}{es:List ((V reg.T×V reg.T)×Nat)}{cs:List MapEntry}(h:gT reg F w φ es cs):(es.all fun e=>V.kP ρ nx e.1.1&&V.kP ρ nx e.1.2)=true→gT reg F w (vG ρ nx φ) es cs:=by
 induction h with
 | nil=>intro _;exact .nil
 | cons k v n c es cs hk hv hn _ ih =>
  intro hf
  simp only[ow,bu] at hf
  exact .cons k v n c es cs (qAw hk hf.1.1) (qAw hv hf.1.2) hn (ih (by simpa using hf.2))
theorem qJR{ρ:Rho}{nx:Nat}{o:O reg.T}(ho:o.kP ρ nx=true)(r j:Nat):((o.row reg r).getD j .any).kP ρ nx=true:=by
 cases o with
 | rows k xs =>
  simp only[O.kP,ek] at ho
  refine kT ?_ j
  show V.kP.goL ρ nx (xs.getD r [])=true
  rcases ja r xs.length with h | h
  ·rw[show xs.getD r []=xs[r] by simp[List.getD,h]]
   exact ho _ (l9 h)
  ·rw[show xs.getD r []=[] by simp[List.getD,h]];rfl
 | trows e xs =>
  show((((reg.enc e (xs.getD r (reg.dflt e))).map V.d).getD j .any)).kP ρ nx=true
  simp only[List.getD,mg]
  cases (reg.enc e _)[j]?<;>rfl
 | map c es=>rfl
 | sit s p=>rfl
 | mit m a b c=>rfl
theorem qJS{ρ:Rho}{nx:Nat}{F:Nat→Prop}{w:World}{φ:Phi}{i:Nat}{o:O reg.T}(h:eZ reg F w φ i o)(ho:o.kP ρ nx=true)(hi:lM ρ nx i=true):eZ reg F w (vG ρ nx φ) i o:=by
 have e:=tJ (φ:=φ) hi
 rcases h with h | ⟨c,es,b,ces,rfl,h1,h2,h3⟩ | ⟨s,p,b,rfl,h1,h2⟩ | ⟨m,s,n,l,b,mb,rfl,h1,h2,h3⟩
 ·refine .inl ⟨h.1,?_⟩
  rcases h.2 with⟨h1,h2⟩ | ⟨b,s,C,t,fz,h1,h2,h3,h4⟩
  ·exact .inl ⟨h1,e.trans h2⟩
  ·exact .inr ⟨b,s,C,t,fz,e.trans h1,h2,h3,⟨h4.size,h4.len,⟨h4.at_.wid,h4.at_.aP,fun r j hr hj=>qAw (h4.at_.rel r j hr hj) (qJR ho r j)⟩⟩⟩
 ·exact .inr (.inl ⟨c,es,b,ces,rfl,e.trans h1,h2,qJQ h3 (by simpa only[O.kP] using ho)⟩)
 ·exact .inr (.inr (.inl ⟨s,p,b,rfl,e.trans h1,h2⟩))
 ·refine .inr (.inr (.inr ⟨m,s,n,l,b,mb,rfl,e.trans h1,h2,?_⟩))
  cases m with
  | none=>exact h3
  | some j =>
   obtain⟨c,s',e1,e2⟩:=h3
   exact⟨c,s',(tJ (by simpa only[O.kP] using ho)).trans e1,e2⟩
theorem rQ{T:Nat→Type}{e e':Nat}{xs:List (T e)}{ys:List (T e')}(h:qP xs e' = some ys):D.sl e xs=D.sl e' ys∧O.trows e xs=O.trows e' ys:=by
 obtain⟨he,hy⟩:=uU h
 subst he;subst hy;exact⟨rfl,rfl⟩
def Agree(ρ:Rho)(φ φ':Phi):Prop:=∀m o,(m,o)∈ρ→φ' m=o.bind φ
def lN(ρ:Rho)(g:Nat→Option (O reg.T))(i:Nat)(o:Option Nat)(ob:O reg.T):Prop:=match o with
 | none=>∃e,ob=.trows e []
 | some j=>∃u,g j=some u∧∀(F:Nat→Prop) (w:World) (φ φ':Phi),Agree ρ φ φ'→φ' i=φ j→eZ reg F w φ j u→eZ reg F w φ' i ob
theorem Agree.sub{ρ ρ':Rho}{φ φ':Phi}(h:Agree ρ' φ φ')(hs:∀p∈ρ,p∈ρ'):Agree ρ φ φ':=fun m o hm=>h m o (hs _ hm)
theorem lN.sub{ρ ρ':Rho}{g:Nat→Option (O reg.T)}{i:Nat}{o:Option Nat}{ob:O reg.T}(h:lN ρ g i o ob)(hs:∀p∈ρ,p∈ρ'):lN ρ' g i o ob:=by
 cases o with
 | none=>exact h
 | some j=>obtain⟨u,h1,h2⟩:=h;exact⟨u,h1,fun F w φ φ' ha=>h2 F w φ φ' (ha.sub hs)⟩
theorem qC3{F:Nat→Prop}{w:World}{φ φ':Phi}{x:D reg.T}{cv:Value}(h:aA reg F w φ (.d x) cv):aA reg F w φ' (.d x) cv:=by
 cases h with
 | d _ _ hd=>exact .d _ _ hd
theorem yR{F:Nat→Prop}{w:World}{φ φ':Phi}{i j e n:Nat}{ys:List (reg.T e)}(hi:φ' i=φ j)(h:eZ reg F w φ j (.trows e ys)):eZ reg F w φ' i (.trows e (ys.take n)):=by
 have h:=h.rows reg rfl
 refine .inl ⟨rfl,?_⟩
 rcases h.2 with⟨h1,h2⟩ | ⟨b,s,C,t,fz,h1,h2,h3,h4⟩
 ·have h1:ys.length=0:=h1
  exact .inl ⟨by show(ys.take n).length=0;rw[il];omega,hi.trans h2⟩
 ·have hl:(ys.take n).length≤ys.length:=by simp;omega
  have hk:∀r,r<(ys.take n).length→(O.trows e (ys.take n)).row reg r=(O.trows e ys).row reg r:=by
   intro r hr
   simp only[il] at hr
   show(reg.enc e ((ys.take n).getD r (reg.dflt e))).map V.d=(reg.enc e (ys.getD r (reg.dflt e))).map V.d
   have: (ys.take n).getD r (reg.dflt e)=ys.getD r (reg.dflt e):=by
    simp only[List.getD,gy];rw[if_pos (by omega)]
   rw[this]
  refine .inr ⟨b,s,C,t,fz,hi.trans h1,h2,h3,?_,?_,?_,?_,?_⟩
  ·have h5:(ys.take n).length*reg.k e≤ys.length*reg.k e:=df _ hl
   show s+(ys.take n).length*reg.k e≤C.size
   have h6:s+ys.length*reg.k e≤C.size:=h4.size
   omega
  ·have h6:ys.length≤9223372036854775807:=h4.len
   show(ys.take n).length≤_
   omega
  ·intro r hr
   rw[hk r hr];exact h4.at_.wid r (gq hr hl)
  ·intro r c hr hc
   rw[hk r hr];exact h4.at_.aP r c (gq hr hl) hc
  ·intro r c hr hc
   have h5:=h4.at_.rel r c (gq hr hl) hc
   rw[hk r hr]
   have h6:c<(reg.enc e (ys.getD r (reg.dflt e))).length:=by rw[reg.len];exact hc
   have h7:((O.trows e ys).row reg r).getD c .any=.d ((reg.enc e (ys.getD r (reg.dflt e)))[c]):=by
    show((reg.enc e (ys.getD r (reg.dflt e))).map V.d).getD c .any=_
    rw[List.getD,mg,gu h6];rfl
   rw[h7] at h5 ⊢
   exact qC3 h5
theorem wZ{k k':IntKind}(h:sameKind k k' = true):k=k':=by
 cases k<;>cases k'<;>first | rfl | cases h
theorem CD.qOj{T:Nat→Type}{c:CD}{x:D T}(h:c.is x=true):c.enc=x:=by
 cases c<;>cases x<;>simp only[CD.is] at h<;>first | (cases h;done) | rfl | (exact congrArg D.str (eq_of_beq h))
theorem Kd.dU{k:Kd}{cs:List (V reg.T)}{g:Nat→Option (O reg.T)}{x:k.T reg}{o:Option Nat}{b:Ob}(h:k.read reg cs g=some (b,x,o))(hb:okO b=true) :
  (k.enc reg x).length=cs.length∧(∀j,j<cs.length→((k.enc reg x).getD j .any).aP=true) ∧
   ∀(F:Nat→Prop) (w:World) (φ φ':Phi),Agree (fM k o []) φ φ'→∀j cv,j<cs.length→aA reg F w φ (cs.getD j .any) cv→aA reg F w φ' ((k.enc reg x).getD j .any) cv:=by
 have one:∀(v u:V reg.T),u.aP=true→(∀(F:Nat→Prop) (w:World) (φ φ':Phi),Agree (fM k o []) φ φ'→∀cv,aA reg F w φ v cv→aA reg F w φ' u cv)→[u].length=[v].length∧(∀j,j<[v].length→([u].getD j .any).aP=true) ∧
   ∀(F:Nat→Prop) (w:World) (φ φ':Phi),Agree (fM k o []) φ φ'→∀j cv,j<[v].length→aA reg F w φ ([v].getD j .any) cv→aA reg F w φ' ([u].getD j .any) cv:=by
  intro v u hu hr
  refine⟨rfl,fun j hj=>?_,fun F w φ φ' ha j cv hj h=>?_⟩
  ·have: j=0:=by simpa using hj
   subst this;exact hu
  ·have: j=0:=by simpa using hj
   subst this;exact hr F w φ φ' ha cv h
 cases k with
 | cst c =>
  simp only[Kd.read] at h
  split at h
  ·split at h
   ·rename_i hk
    cases h
    exact one _ _ rfl fun _ _ _ _ _ _ h=>(CD.qOj hk)▸qC3 h
   ·cases h
  ·cases h
 | int k =>
  simp only[Kd.read] at h
  split at h
  ·split at h
   ·rename_i hk
    cases h
    cases wZ hk
    exact one _ _ rfl fun _ _ _ _ _ _ h=>qC3 h
   ·cases h
  ·cases h
 | bool =>
  simp only[Kd.read] at h
  split at h
  ·cases h;exact one _ _ rfl fun _ _ _ _ _ _ h=>qC3 h
  ·cases h
 | str =>
  simp only[Kd.read] at h
  split at h
  ·cases h;exact one _ _ rfl fun _ _ _ _ _ _ h=>qC3 h
  ·cases h
 | dat e =>
  simp only[Kd.read] at h
  split at h
  ·split at h
   ·rename_i ys hc
    cases h
    refine one _ _ rfl fun F w φ φ' _ cv h=>?_
    have:= qC3 (φ':=φ') h
    rw[(rQ hc).1] at this
    exact this
   ·cases h
  ·cases h
   refine one _ _ rfl fun F w φ φ' _ cv h=>?_
   cases h with
   | d x v hd =>
    cases hd with
    | nils=>exact .d _ _ (.emp _ rfl rfl none 0)
    | emp x hx hl base cap=>cases hx
    | sl x n a cap C t fz hx=>cases hx
  ·cases h
 | own m e cut =>
  simp only[Kd.read] at h
  split at h
  ·cases h
   refine one _ _ rfl fun F w φ φ' _ cv h=>?_
   cases h with
   | d x v hd =>
    cases hd with
    | nils=>exact .slz m 0 (.least 0) none (dh 0) (fun _=>rfl)
    | emp x hx hl base cap=>cases hx
    | sl x n a cap C t fz hx=>cases hx
  ·rename_i j len cap
   split at h
   ·rename_i e' xs hg
    split at h
    ·rename_i ys hc
     have fin:∀(zs:List (reg.T e)),zs.length=len→∀(F:Nat→Prop) (w:World) (φ φ':Phi),Agree (fM (.own m e cut) (some j) []) φ φ'→∀cv,aA reg F w φ (.sl j 0 len cap) cv→aA reg F w φ' (.sl m 0 zs.length (.least 0)) cv:=by
      intro zs hz F w φ φ' ha cv hv
      have hm:φ' m=φ j:=ha m (some j) (by simp[fM])
      rw[hz]
      cases hv with
      | sl _ _ _ _ b s k z cap' hp hc hl hm' hz=>exact .sl m 0 len (.least 0) b s k z cap' (hm.trans hp) (di _) hl hm' hz
      | slz _ _ _ base hc hb=>exact .slz m 0 (.least 0) base (dh 0) (fun _=>rfl)
     cases cut with
     | true =>
      cases h
      have h1:len≤ys.length:=bz hb
      exact one _ _ rfl (fin _ (by simp;omega))
     | false =>
      cases h
      have h1:len=ys.length:=cz hb
      exact one _ _ rfl (fin _ h1.symm)
    ·cases h
   ·cases h
  ·cases h
 | rcd e =>
  simp only[Kd.read] at h
  split at h
  ·rename_i l hl
   split at h
   ·rename_i x' hx
    cases h
    have h1:=reg.law e l _ hx
    have h2:=jQ hl
    subst h2
    refine⟨by simp[Kd.enc,h1.1],fun j hj=>?_,fun F w φ φ' _ j cv hj h=>?_⟩
    ·have hj':j<(reg.enc e x).length:=by rw[h1.1];simpa using hj
     show(((reg.enc e x).map V.d).getD j .any).aP=true
     simp[List.getD,hj',V.aP]
    ·have hj1:j<l.length:=by simpa using hj
     have hj':j<(reg.enc e x).length:=by rw[h1.1];exact hj1
     have e1:((l.map V.d).getD j .any:V reg.T)=.d (l.getD j .nilp):=by simp[List.getD,hj1]
     have e2:(((reg.enc e x).map V.d).getD j .any:V reg.T)=.d ((reg.enc e x).getD j .nilp):=by simp[List.getD,hj']
     rw[e1] at h
     show aA reg F w φ' (((reg.enc e x).map V.d).getD j .any) cv
     rw[e2]
     cases h with
     | d x v hd=>exact .d _ _ ((h1.2 j).rel hd)
   ·cases h
  ·cases h
theorem Kd.qBh{k:Kd}{cs:List (V reg.T)}{g:Nat→Option (O reg.T)}{x:k.T reg}{o:Option Nat}{b:Ob}(h:k.read reg cs g=some (b,x,o))(hb:okO b=true) :
  ∀i ob,(i,ob)∈k.aL reg x→(i,o)∈fM k o []∧lN (fM k o []) g i o ob:=by
 intro i ob hm
 cases k with
 | own m e cut =>
  simp only[Kd.aL,ig,dx] at hm
  obtain⟨rfl,rfl⟩:=hm
  refine⟨by simp[fM],?_⟩
  simp only[Kd.read] at h
  split at h
  ·cases h;exact⟨e,rfl⟩
  ·rename_i j len cap
   split at h
   ·rename_i e' xs hg
    split at h
    ·rename_i ys hc
     have hc2:=(rQ hc).2
     cases cut with
     | true =>
      cases h
      exact⟨_,hg,fun F w φ φ' _ hi ho=>yR hi (hc2▸ho)⟩
     | false =>
      cases h
      refine⟨_,hg,fun F w φ φ' _ hi ho=>?_⟩
      have:= yR (n:=ys.length) hi (hc2▸ho)
      rw[jd] at this
      exact this
    ·cases h
   ·cases h
  ·cases h
 | cst c=>simp[Kd.aL] at hm
 | int k=>simp[Kd.aL] at hm
 | bool=>simp[Kd.aL] at hm
 | str=>simp[Kd.aL] at hm
 | dat e=>simp[Kd.aL] at hm
 | rcd e=>simp[Kd.aL] at hm
theorem qC4{k:Kd}{o:Option Nat}{l:Rho}{p:Nat×Option Nat}:p∈fM k o l↔p∈fM k o []∨p∈l:=by
 cases k<;>simp[fM]
theorem vH{k:Kd}{o:Option Nat}{l:Rho}:(fM k o l).map (·.1)=k.names++l.map (·.1):=by
 cases k<;>simp[fM,Kd.names]
theorem qC5{k:Kd}{v:V reg.T}{g:Nat→Option (O reg.T)}{x:k.T reg}{o:Option Nat}{b:Ob}(h:lL reg k v g=some (b,x,o))(hb:okO b=true) :
  (qBg reg k x).aP = !isRec k∧(∀(F:Nat→Prop) (w:World) (φ φ':Phi),Agree (fM k o []) φ φ'→∀cv,aA reg F w φ v cv→aA reg F w φ' (qBg reg k x) cv) ∧
   ∀i ob,(i,ob)∈k.aL reg x→(i,o)∈fM k o []∧lN (fM k o []) g i o ob:=by
 unfold lL at h
 unfold qBg
 split at h
 ·rename_i hr
  split at h
  ·rename_i cs
   obtain⟨h1,h2,h3⟩:=Kd.dU h hb
   rw[hr]
   refine⟨rfl,fun F w φ φ' ha cv hv=>?_,Kd.qBh h hb⟩
   cases hv with
   | agg vs cs hz hh=>exact .agg _ _ (h1.trans hz) fun j hj=>h3 F w φ φ' ha j _ (by omega) (hh j (by omega))
  ·cases h
 ·rename_i hr
  obtain⟨h1,h2,h3⟩:=Kd.dU h hb
  rw[hr]
  have e:(k.enc reg x).headD .any=(k.enc reg x).getD 0 .any:=by cases k.enc reg x<;>rfl
  simp only[e]
  exact⟨h2 0 (by simp),fun F w φ φ' ha cv hv=>h3 F w φ φ' ha 0 cv (by simp) hv,Kd.qBh h hb⟩
theorem jH:∀{ks:List Kd} {cs:List (V reg.T)} {g:Nat→Option (O reg.T)} {x:Cs reg ks} {ρ:Rho} {b:Ob},jG reg ks cs g=some (b,x,ρ)→okO b=true →
  ρ.map (·.1)=ks.flatMap Kd.names∧(Cs.enc reg ks x).length=cs.length∧(∀j,j<cs.length→((Cs.enc reg ks x).getD j .any).aP=true) ∧
   (∀(F:Nat→Prop) (w:World) (φ φ':Phi),Agree ρ φ φ'→∀j cv,j<cs.length→aA reg F w φ (cs.getD j .any) cv→aA reg F w φ' ((Cs.enc reg ks x).getD j .any) cv) ∧
   ∀i ob,(i,ob)∈Cs.aL reg ks x→∃o,(i,o)∈ρ∧lN ρ g i o ob
 | [],cs,g,x,ρ,b,h,hb=>by
  simp only[jG] at h
  split at h
  ·cases h
   exact⟨rfl,rfl,fun j hj=>by simp at hj,fun _ _ _ _ _ j _ hj=>by simp at hj,fun i ob hm=>by simp[Cs.aL] at hm⟩
  ·cases h
 | k::ks,cs,g,x,ρ,_,h,hb=>by
  simp only[jG] at h
  split at h
  ·rename_i b y o b' z l hw h1 h2
   simp only[cu,dx] at h
   obtain⟨rfl,rfl,rfl⟩:=h
   obtain⟨hb1,hb2⟩:=wV hb
   have hw:k.w reg≤cs.length:=bz hw
   obtain⟨a1,a2,a3⟩:=Kd.dU h1 hb1
   have a4:=Kd.qBh h1 hb1
   obtain⟨b0,b1,b2,b3,b4⟩:=jH h2 hb2
   have hl1:(cs.take (k.w reg)).length=k.w reg:=by simp;omega
   have hl2:(cs.drop (k.w reg)).length=cs.length-k.w reg:=by simp
   rw[hl1] at a1 a2
   rw[hl2] at b1 b2
   have get1:∀j,j<k.w reg→(cs.take (k.w reg)).getD j .any=cs.getD j .any∧(Cs.enc reg (k::ks) (y,z)).getD j .any=(k.enc reg y).getD j .any:=by
    intro j hj
    constructor
    ·simp only[List.getD,gy];rw[if_pos hj]
    ·simp only[Cs.enc,List.getD]
     rw[j4 (by omega)]
   have get2:∀j,¬j<k.w reg→(cs.drop (k.w reg)).getD (j-k.w reg) .any=cs.getD j .any∧(Cs.enc reg (k::ks) (y,z)).getD j .any=(Cs.enc reg ks z).getD (j-k.w reg) .any:=by
    intro j hj
    constructor
    ·simp only[List.getD,ic];rw[show k.w reg+(j-k.w reg)=j by omega]
    ·simp only[Cs.enc,List.getD]
     rw[iw (by omega),a1]
   have s1:∀p∈fM k o [],p∈fM k o l:=fun p hp=>qC4.2 (.inl hp)
   have s2:∀p∈l,p∈fM k o l:=fun p hp=>qC4.2 (.inr hp)
   refine⟨by rw[vH,b0];simp,by simp only[Cs.enc,ji];omega,fun j hj=>?_,fun F w φ φ' ha j cv hj hv=>?_,fun i ob hm=>?_⟩
   ·by_cases hjk:j<k.w reg
    ·rw[(get1 j hjk).2];exact a2 j hjk
    ·rw[(get2 j hjk).2];exact b2 _ (by omega)
   ·by_cases hjk:j<k.w reg
    ·rw[(get1 j hjk).2]
     exact a3 F w φ φ' (ha.sub s1) j cv (by omega) ((get1 j hjk).1▸hv)
    ·rw[(get2 j hjk).2]
     exact b3 F w φ φ' (ha.sub s2) _ cv (by omega) ((get2 j hjk).1▸hv)
   ·simp only[Cs.aL,dw] at hm
    rcases hm with hm | hm
    ·obtain⟨c1,c2⟩:=a4 i ob hm
     exact⟨o,s1 _ c1,c2.sub s1⟩
    ·obtain⟨o',c1,c2⟩:=b4 i ob hm
     exact⟨o',s2 _ c1,c2.sub s2⟩
  ·cases h
theorem qBi{F:Nat→Prop}{w:World}{φ φ':Phi}{i j k:Nat}{cs row:List (V reg.T)}(hl:row.length=cs.length)(hs:∀c,c<cs.length→(row.getD c .any).aP=true)
  (hr:∀c cv,c<cs.length→aA reg F w φ (cs.getD c .any) cv→aA reg F w φ' (row.getD c .any) cv) (hi:φ' i=φ j) (h:eZ reg F w φ j (.rows k [cs])):eZ reg F w φ' i (.rows row.length [row]):=by
 have h:=h.rows reg rfl
 refine .inl ⟨rfl,?_⟩
 rcases h.2 with⟨h1,h2⟩ | ⟨b,s,C,t,fz,h1,h2,h3,h4⟩
 ·cases h1
 ·have hk:cs.length=k:=h4.at_.wid 0 (by show 0<1;omega)
  have h5:s+1*k≤C.size:=h4.size
  have hk2:row.length=k:=hl.trans hk
  refine .inr ⟨b,s,C,t,fz,?_,h2,by rw[show(O.rows row.length [row]).k reg=row.length from rfl,hk2];exact h3,?_,?_,?_,?_,?_⟩
  ·show φ' i=some (b,s,row.length,C.size)
   rw[hk2];exact hi.trans h1
  ·show s+1*row.length≤C.size
   rw[hk2];exact h5
  ·show 1≤_;omega
  ·intro r hr'
   have: r=0:=by have: r<1:=hr';omega
   subst this;rfl
  ·intro r c hr' hc
   have: r=0:=by have: r<1:=hr';omega
   subst this
   exact hs c (by have: c<row.length:=hc;omega)
  ·intro r c hr' hc
   have: r=0:=by have: r<1:=hr';omega
   subst this
   have hc':c<row.length:=hc
   have:= h4.at_.rel 0 c (by show 0<1;omega) (by show c<k;omega)
   have h7:=hr c _ (by omega) this
   have e1:0*(O.rows row.length [row]).k reg+c=0*(O.rows k [cs]).k reg+c:=by simp
   rw[e1]
   exact h7
theorem Ld.dU{l:Ld}{st:St reg.T}{x:l.T reg}{ρ:Rho}{b:Ob}(h:l.read reg st=some (b,x,ρ))(hb:okO b=true) :
  ρ.map (·.1)=l.names∧(∀t v,(t,v)∈l.vals reg x→t∈l.slots∧∃u,st.env.get t=some u∧∀(F:Nat→Prop) (w:World) (φ φ':Phi),Agree ρ φ φ'→∀cv,aA reg F w φ u cv→aA reg F w φ' v cv) ∧
   ∀i ob,(i,ob)∈l.aL reg x→∃o,(i,o)∈ρ∧lN ρ st.hp.get i o ob:=by
 cases l with
 | slot t k =>
  simp only[Ld.read] at h
  split at h
  ·rename_i v hv
   split at h
   ·rename_i b y o hr
    simp only[cu,dx] at h
    obtain⟨rfl,rfl,rfl⟩:=h
    obtain⟨_,h2,h3⟩:=qC5 hr hb
    refine⟨by rw[vH];simp[Ld.names],fun t' v' hm=>?_,fun i ob hm=>⟨o,h3 i ob hm⟩⟩
    simp only[Ld.vals,ig,dx] at hm
    obtain⟨rfl,rfl⟩:=hm
    exact⟨by simp[Ld.slots],v,hv,h2⟩
   ·cases h
  ·cases h
 | obj i ks =>
  simp only[Ld.read] at h
  split at h
  ·rename_i k cs hg
   split at h
   ·rename_i b y l hr
    simp only[cu,dx] at h
    obtain⟨rfl,rfl,rfl⟩:=h
    obtain⟨h0,h1,h2,h3,h4⟩:=jH hr hb
    have s2:∀p∈l,p∈(i,some i)::l:=fun p hp=>by simp[hp]
    refine⟨by simp[Ld.names,h0],fun t' v' hm=>by simp[Ld.vals] at hm,fun i' ob hm=>?_⟩
    simp only[Ld.aL,fu,dx] at hm
    rcases hm with⟨rfl,rfl⟩ | hm
    ·exact⟨some i',by simp,_,hg,fun F w φ φ' ha hi ho=>qBi h1 h2 (fun c cv hc hv=>h3 F w φ φ' (ha.sub s2) c cv hc hv) hi ho⟩
    ·obtain⟨o,c1,c2⟩:=h4 i' ob hm
     exact⟨o,s2 _ c1,c2.sub s2⟩
   ·cases h
  ·cases h
 | rows i e =>
  simp only[Ld.read] at h
  split at h
  ·rename_i e' xs hg
   split at h
   ·rename_i ys hys
    cases h
    refine⟨rfl,fun t' v' hm=>by simp[Ld.vals] at hm,fun i' ob hm=>?_⟩
    simp only[Ld.aL,ig,dx] at hm
    obtain⟨rfl,rfl⟩:=hm
    refine⟨some i',by simp,_,hg,fun F w φ φ' _ hi ho=>?_⟩
    have h1:=(rQ hys).2▸ho
    have h2:=yR (n:=List.length x) hi h1
    rw[show List.take (List.length x) x=x from jd] at h2
    exact h2
   ·cases h
  ·cases h
 | ptr t m ks =>
  simp only[Ld.read] at h
  split at h
  ·rename_i j hv
   split at h
   ·rename_i k cs hg
    split at h
    ·rename_i b y l hr
     simp only[cu,dx] at h
     obtain⟨rfl,rfl,rfl⟩:=h
     obtain⟨h0,h1,h2,h3,h4⟩:=jH hr hb
     have s2:∀p∈l,p∈(m,some j)::l:=fun p hp=>by simp[hp]
     refine⟨by simp[Ld.names,h0],fun t' v' hm=>?_,fun i' ob hm=>?_⟩
     ·simp only[Ld.vals,ig,dx] at hm
      obtain⟨rfl,rfl⟩:=hm
      refine⟨by simp[Ld.slots],_,hv,fun F w φ φ' ha cv hc=>?_⟩
      have e:φ' m=φ j:=ha m (some j) (by simp)
      cases hc with
      | ptr _ _ _ b s k z hp=>exact .ptr m 0 0 b s k z (e.trans hp)
     ·simp only[Ld.aL,fu,dx] at hm
      rcases hm with⟨rfl,rfl⟩ | hm
      ·exact⟨some j,by simp,_,hg,fun F w φ φ' ha hi ho=>qBi h1 h2 (fun c cv hc hv=>h3 F w φ φ' (ha.sub s2) c cv hc hv) hi ho⟩
      ·obtain⟨o,c1,c2⟩:=h4 i' ob hm
       exact⟨o,s2 _ c1,c2.sub s2⟩
    ·cases h
   ·cases h
  ·cases h
 | sit i =>
  simp only[Ld.read] at h
  split at h
  ·rename_i s p hg
   simp only[cu,dx] at h
   obtain⟨rfl,rfl,rfl⟩:=h
   refine⟨rfl,fun t' v' hm=>by simp[Ld.vals] at hm,fun i' ob hm=>?_⟩
   simp only[Ld.aL,ig,dx] at hm
   obtain⟨rfl,rfl⟩:=hm
   refine⟨some i',by simp,_,hg,fun F w φ φ' _ hi ho=>?_⟩
   obtain⟨b,h1,h2⟩:=ho.sit
   exact .inr (.inr (.inl ⟨s,p,b,rfl,hi.trans h1,h2⟩))
  ·cases h
 | gone i =>
  simp only[Ld.read] at h
  cases h
  exact⟨rfl,fun t' v' hm=>by simp[Ld.vals] at hm,fun i' ob hm=>by simp[Ld.aL] at hm⟩
theorem qBj:∀{ls:List Ld} {st:St reg.T} {x:Sg reg ls} {ρ:Rho} {b:Ob},nI reg ls st=some (b,x,ρ)→okO b=true →
  ρ.map (·.1)=ls.flatMap Ld.names∧(∀t v,(t,v)∈Sg.vals reg ls x→t∈ls.flatMap Ld.slots∧∃u,st.env.get t=some u∧∀(F:Nat→Prop) (w:World) (φ φ':Phi),Agree ρ φ φ'→∀cv,aA reg F w φ u cv→aA reg F w φ' v cv) ∧
   ∀i ob,(i,ob)∈Sg.aL reg ls x→∃o,(i,o)∈ρ∧lN ρ st.hp.get i o ob
 | [],st,x,ρ,b,h,hb=>by
  simp only[nI] at h
  cases h
  exact⟨rfl,fun t v hm=>by simp[Sg.vals] at hm,fun i ob hm=>by simp[Sg.aL] at hm⟩
 | l::ls,st,x,ρ,_,h,hb=>by
  simp only[nI] at h
  split at h
  ·rename_i b y r b' z r' h1 h2
   simp only[cu,dx] at h
   obtain⟨rfl,rfl,rfl⟩:=h
   obtain⟨hb1,hb2⟩:=wV hb
   obtain⟨a1,a2,a3⟩:=Ld.dU h1 hb1
   obtain⟨b1,b2,b3⟩:=qBj h2 hb2
   have s1:∀p∈r,p∈r++r':=fun p hp=>by simp[hp]
   have s2:∀p∈r',p∈r++r':=fun p hp=>by simp[hp]
   refine⟨by rw[kg,a1,b1];simp,fun t v hm=>?_,fun i ob hm=>?_⟩
   ·simp only[Sg.vals,dw] at hm
    rcases hm with hm | hm
    ·obtain⟨c0,u,c1,c2⟩:=a2 t v hm
     exact⟨by simp[c0],u,c1,fun F w φ φ' ha=>c2 F w φ φ' (ha.sub s1)⟩
    ·obtain⟨c0,u,c1,c2⟩:=b2 t v hm
     exact⟨by rw[ib];exact nz _ c0,u,c1,fun F w φ φ' ha=>c2 F w φ φ' (ha.sub s2)⟩
   ·simp only[Sg.aL,dw] at hm
    rcases hm with hm | hm
    ·obtain⟨o,c1,c2⟩:=a3 i ob hm
     exact⟨o,s1 _ c1,c2.sub s1⟩
    ·obtain⟨o,c1,c2⟩:=b3 i ob hm
     exact⟨o,s2 _ c1,c2.sub s2⟩
  ·cases h
theorem pY{α:Type}:∀{l:List (Nat×α)},bE (l.map (·.1))=true→∀{i:Nat} {x:α},(i,x)∈l→aQ l i=some x
 | (k,y)::l,h,i,x,hm=>by
  simp only[kv,bE,bu,jv] at h
  simp only[aQ]
  rcases fu.1 hm with hm | hm
  ·cases hm;rw[jq]
  ·have hne:k≠i:=fun e=>by
    subst e
    have: fI (l.map (·.1)) k=true:=bZ.2 (fq.2 ⟨_,hm,rfl⟩)
    rw[h.1] at this;cases this
   rw[Tr.qA8 hne]
   exact pY h.2 hm
theorem kU:∀{ρ:Rho} {m j:Nat},(m,some j)∈ρ→j∈cZ ρ
 | (a,some b)::l,m,j,h=>by
  simp only[cZ]
  rcases fu.1 h with h | h
  ·cases h;simp
  ·simp[kU h]
 | (a,none)::l,m,j,h=>by
  simp only[cZ]
  rcases fu.1 h with h | h
  ·cases h
  ·exact kU h
theorem kW:∀{ρ:Rho},bE (cZ ρ)=true→∀{i j k:Nat},(i,some k)∈ρ→(j,some k)∈ρ→i=j
 | (a,some b)::l,h,i,j,k,hi,hj=>by
  simp only[cZ,bE,bu,jv] at h
  have hn:∀m,(m,some b) ∉ l:=fun m hm=>by
   have: fI (cZ l) b=true:=bZ.2 (kU hm)
   rw[h.1] at this;cases this
  rcases fu.1 hi with hi | hi<;>rcases fu.1 hj with hj | hj
  ·cases hi;cases hj;rfl
  ·cases hi;exact(hn _ hj).elim
  ·cases hj;exact(hn _ hi).elim
  ·exact kW h.2 hi hj
 | (a,none)::l,h,i,j,k,hi,hj=>by
  simp only[cZ] at h
  rcases fu.1 hi with hi | hi<;>rcases fu.1 hj with hj | hj
  ·cases hi
  ·cases hi
  ·cases hj
  ·exact kW h hi hj
structure qQH(n0 nx nxA:Nat)(ρ:Rho):Prop where
 le:n0≤nx
 le':nx≤nxA
 ok:Tr.ok nxA=true
 inj:∀i j k,iV ρ nx i=some k→iV ρ nx j=some k→i=j
 look:∀m o,(m,o)∈ρ→aQ ρ m=some o
 dom:∀i k,iV ρ nx i=some k→i<nxA
 key:∀m o,(m,o)∈ρ→m<nxA
 self:∀i,i<n0→iV ρ nx i=some i
theorem qJT{n0 nx nxA:Nat}{ρ:Rho}(h:okR n0 nx nxA ρ=true):qQH n0 nx nxA ρ:=by
 unfold okR at h
 simp only[bu,ek,jm,bZ] at h
 obtain⟨⟨⟨⟨⟨⟨⟨h1,h2⟩,h3⟩,h4⟩,h5⟩,h6⟩,h7⟩,h8⟩:=h
 have h1:n0≤nx:=bz h1
 have h2:nx≤nxA:=bz h2
 have hkey:∀m o,(m,o)∈ρ→m<nxA:=fun m o hm=>bz (h7 m (fq.2 ⟨_,hm,rfl⟩))
 have hs:∀i k,iV ρ nx i=some k→(i,some k)∈ρ∨(aQ ρ i=none∧i<nx∧k=i):=by
  intro i k hi
  unfold iV at hi
  split at hi
  ·rename_i o ho;subst hi;exact .inl (fF ho)
  ·rename_i ho
   split at hi
   ·rename_i hb;cases hi;exact .inr ⟨ho,bz hb,rfl⟩
   ·cases hi
 have hno:∀i o,aQ ρ i=none→(i,o) ∉ ρ:=fun i o hn hm=>by rw[pY h5 hm] at hn;cases hn
 have mix:∀i j k,(i,some k)∈ρ→aQ ρ j=none→j<nx→k=j→False:=by
  intro i j k hi hj hlt e
  subst e
  rcases h6 k (kU hi) with h | h
  ·have: nx≤k:=bz h;omega
  ·obtain⟨p,hp,e⟩:=fq.1 h
   obtain⟨m,o⟩:=p
   simp only at e;subst e
   exact hno _ _ hj hp
 refine⟨h1,h2,h3,fun i j k hi hj=>?_,fun m o hm=>pY h5 hm,fun i k hi=>?_,hkey,fun i hi=>?_⟩
 ·rcases hs i k hi with hi | ⟨a1,a2,a3⟩<;>rcases hs j k hj with hj | ⟨b1,b2,b3⟩
  ·exact kW h4 hi hj
  ·exact(mix i j k hi b1 b2 b3).elim
  ·exact(mix j i k hj a1 a2 a3).elim
  ·omega
 ·rcases hs i k hi with hi | ⟨a1,a2,a3⟩
  ·exact hkey _ _ hi
  ·omega
 ·cases hl:aQ ρ i with
  | none =>
   unfold iV
   rw[hl]
   have: Nat.blt i nx=true:=by show Nat.ble (i+1) nx=true;exact fw (by omega)
   simp only[this]
  | some o =>
   rcases h8 _ (fF hl) with h | h
   ·have: n0≤i:=bz h;omega
   ·exact qC2 h
theorem yS{α:Type}:∀{l:List (Nat×α)} {t:Tr α} {j:Nat},(∀p∈l,Tr.ok p.1=true)→(∀p∈l,p.1≠j)→(bD l t).get j=t.get j
 | [],t,j,_,_=>rfl
 | (i,x)::l,t,j,h,hn=>by
  simp only[bD]
  rw[Tr.dG (h (i,x) (by simp)),if_neg (fun e=>hn (i,x) (by simp) e.symm),yS (fun p hp=>h p (by simp[hp])) (fun p hp=>hn p (by simp[hp]))]
theorem qA:∀{ls:List Ld} {s:Sg reg ls} {t:Nat} {v:V reg.T},(t,v)∈Sg.vals reg ls s→t∈ls.flatMap Ld.slots
 | [],s,t,v,h=>by simp[Sg.vals] at h
 | l::ls,s,t,v,h=>by
  simp only[Sg.vals,dw] at h
  rw[ib,dw]
  rcases h with h | h
  ·left
   cases l with
   | slot t' k=>simp only[Ld.vals,ig,dx] at h;simp[Ld.slots,h.1]
   | obj i ks=>simp[Ld.vals] at h
   | rows i e=>simp[Ld.vals] at h
   | ptr t' m ks=>simp only[Ld.vals,ig,dx] at h;simp[Ld.slots,h.1]
   | sit i=>simp[Ld.vals] at h
   | gone i=>simp[Ld.vals] at h
  ·exact .inr (qA h)
theorem qAc{k:Kd}{x:k.T reg}{i:Nat}{ob:O reg.T}(h:(i,ob)∈k.aL reg x):i∈k.names:=by
 cases k<;>simp[Kd.aL,Kd.names] at h ⊢
 exact h.1
theorem qB:∀{ks:List Kd} {x:Cs reg ks} {i:Nat} {ob:O reg.T},(i,ob)∈Cs.aL reg ks x→i∈ks.flatMap Kd.names
 | [],x,i,ob,h=>by simp[Cs.aL] at h
 | k::ks,x,i,ob,h=>by
  simp only[Cs.aL,dw] at h
  rw[ib,dw]
  rcases h with h | h
  ·exact .inl (qAc h)
  ·exact .inr (qB h)
theorem aZ:∀{ls:List Ld} {s:Sg reg ls} {i:Nat} {ob:O reg.T},(i,ob)∈Sg.aL reg ls s→i∈ls.flatMap Ld.names
 | [],s,i,ob,h=>by simp[Sg.aL] at h
 | l::ls,s,i,ob,h=>by
  simp only[Sg.aL,dw] at h
  rw[ib,dw]
  rcases h with h | h
  ·left
   cases l with
   | slot t' k=>exact qAc h
   | obj j ks =>
    simp only[Ld.aL,fu,dx] at h
    rcases h with h | h
    ·simp[Ld.names,h.1]
    ·simp only[Ld.names];exact jg _ (qB h)
   | rows j e =>
    simp only[Ld.aL,ig,dx] at h
    simp[Ld.names,h.1]
   | ptr t' j ks =>
    simp only[Ld.aL,fu,dx] at h
    rcases h with h | h
    ·simp[Ld.names,h.1]
    ·simp only[Ld.names];exact jg _ (qB h)
   | sit j =>
    simp only[Ld.aL,ig,dx] at h
    simp[Ld.names,h.1]
   | gone j=>simp[Ld.aL] at h
  ·exact .inr (aZ h)
theorem xA:∀(l:List Nat) (n:Nat),n≤l.foldl (fun a m=>Nat.max a (m+1)) n
 | [],n=>dh _
 | m::l,n=>dm (Nat.le_max_left n (m+1)) (xA l _)
theorem tK{D:List Nat}{ls:List Ld}(h:qAp D ls=true):(∀t∈D,Tr.ok t=true)∧(∀t∈ls.flatMap Ld.slots,t∈D)∧∀i∈ls.flatMap Ld.names,Tr.ok i=true:=by
 unfold qAp at h
 simp only[bu,ek,bZ] at h
 exact⟨h.1.1,h.1.2,h.2⟩
theorem qM7{l:List Nat}{i:Nat}(h:fI l i=false):i ∉ l:=fun hm=>by rw[bZ.2 hm] at h;cases h
theorem qIA{D:List Nat}{ls:List Ld}(hs:qAp D ls=true){st:St reg.T}{s:Sg reg ls}{t:Nat}(ht:fI D t=false):(qAo reg D ls st s).env.get t=st.env.get t:=by
 obtain⟨h1,h2,h3⟩:=tK hs
 have hn:=qM7 ht
 show(bD (Sg.vals reg ls s) (dJ D st.env)).get t=_
 rw[yS (fun p hp=>h1 _ (h2 _ (qA hp))) (fun p hp e=>hn (by rw[←e];exact h2 _ (qA hp))),dE h1,if_neg hn]
theorem nW{D:List Nat}{ls:List Ld}(hs:qAp D ls=true){st:St reg.T}{s:Sg reg ls}:Grow st.hp (qAo reg D ls st s).hp:=by
 obtain⟨h1,h2,h3⟩:=tK hs
 refine⟨xA _ _,_,rfl,fun i hi _=>?_⟩
 show(bD (Sg.aL reg ls s) (dJ (ls.flatMap Ld.names) st.hp.h)).get i=_
 rw[yS (fun p hp=>h3 _ (aZ hp)) (fun p hp e=>hi (by rw[←e];exact aZ hp)),dE h3,if_neg hi]
 rfl
theorem qOS{n0:Nat}{F0:Nat→Prop}{φ0:Phi}{H0:Nat→Option (O reg.T)}{w0:World}{D:List Nat}{ls:List Ld}{st st2:St reg.T}{s:Sg reg ls}{ρ:Rho}{b:Ob}(hs:qAp D ls=true)(hc:qAb reg n0 D ls st ρ st2=true)
  (hr:nI reg ls st2=some (b,s,ρ)) (hb:okO b=true) (hlt:∀i o,st.hp.get i=some o→i<st.hp.nx) (hK:∀t,fI D t=false→st2.env.get t=st.env.get t)
  (hH:∀i,i<st.hp.nx→fI (ls.flatMap Ld.names) i=false→st2.hp.get i=st.hp.get i) {a:Act} {w:World} (hR:RA n0 F0 φ0 H0 w0 nt st2 a w):RA n0 F0 φ0 H0 w0 nt (qAo reg D ls st s) a w:=by
 obtain⟨N,F,φ,hN,hR,hG⟩:=hR
 obtain⟨h1,h2,h3⟩:=tK hs
 unfold qAb at hc
 simp only[bu] at hc
 obtain⟨⟨⟨hc1,_⟩,hc3⟩,hc4⟩:=hc
 obtain⟨hk,hv,ho⟩:=qBj hr hb
 have R:=qJT hc1
 have ag:Agree ρ φ (vG ρ st.hp.nx φ):=by
  intro m o hm
  unfold vG iV
  rw[R.look m o hm]
  cases o<;>rfl
 have hm:∀i,i∈ls.flatMap Ld.names↔∃o,(i,o)∈ρ:=by
  intro i
  rw[←hk,fq]
  exact⟨fun⟨p,hp,e⟩=>⟨p.2,e▸hp⟩,fun⟨o,ho⟩=>⟨_,ho,rfl⟩⟩
 have hobj:∀i o,(qAo reg D ls st s).hp.get i=some o→(iV ρ st.hp.nx i=none∧(∃e,o=.trows e []))∨∃j u,iV ρ st.hp.nx i=some j∧st2.hp.get j=some u∧(eZ reg F w φ j u→eZ reg F w (vG ρ st.hp.nx φ) i o):=by
  intro i o hi
  rcases iC (fun p hp=>h3 _ (aZ hp)) (show(bD (Sg.aL reg ls s) (dJ (ls.flatMap Ld.names) st.hp.h)).get i=some o from hi) with h | h
  ·obtain⟨q,q1,q2⟩:=ho i o h
   have e:iV ρ st.hp.nx i=q:=by unfold iV;rw[R.look _ _ q1]
   cases q with
   | none=>exact .inl ⟨e,q2⟩
   | some j =>
    obtain⟨u,u1,u2⟩:=q2
    exact .inr ⟨j,u,e,u1,fun hu=>u2 F w φ _ ag (by unfold vG;rw[e]) hu⟩
  ·have hfix:=wY hc4 h
   rw[dE h3] at h
   split at h
   ·cases h
   ·rename_i hn
    have hn':fI (ls.flatMap Ld.names) i=false:=by
     cases hb:fI (ls.flatMap Ld.names) i with
     | false=>rfl
     | true=>exact(hn (bZ.1 hb)).elim
    have hi':i<st.hp.nx:=hlt i o h
    have hl:aQ ρ i=none:=by
     cases hl:aQ ρ i with
     | none=>rfl
     | some q=>exact(hn ((hm i).2 ⟨q,fF hl⟩)).elim
    have e:iV ρ st.hp.nx i=some i:=by
     unfold iV
     rw[hl]
     have: Nat.blt i st.hp.nx=true:=fw hi'
     simp only[this]
    refine .inr ⟨i,o,e,(hH i hi' hn').trans h,fun hu=>qJS hu hfix ?_⟩
    unfold lM
    rw[e]
    exact jq i
 refine⟨fun i=>i<qOR ls st.hp.nx,F,vG ρ st.hp.nx φ,fun i hi=>hi,⟨fun t v hv'=>?_,hR.size,⟨fun i o hi=>?_,fun i o b s' k hi hp=>?_,fun i j oi oj b s1 k1 s2 k2 hi hj hpi hpj=>?_,fun i p hp=>?_,fun i o hi=>?_,fun i hi=>qEj R.ok hi,hR.heap.frz,hR.heap.lay⟩,hR.dfs⟩,?_⟩
 ·rcases iC (fun p hp=>h1 _ (h2 _ (qA hp))) (show(bD (Sg.vals reg ls s) (dJ D st.env)).get t=some v from hv') with h | h
  ·obtain⟨_,u,u1,u2⟩:=hv t v h
   obtain⟨g1,g2⟩:=hR.env t u u1
   exact⟨g1,u2 F w φ _ ag _ g2⟩
  ·have hfix:=wY hc3 h
   rw[dE h1] at h
   split at h
   ·cases h
   ·rename_i hn
    have hn':fI D t=false:=by
     cases hb:fI D t with
     | false=>rfl
     | true=>exact(hn (bZ.1 hb)).elim
    obtain⟨g1,g2⟩:=hR.env t v ((hK t hn').trans h)
    exact⟨g1,qAw g2 hfix⟩
 ·rcases hobj i o hi with⟨e,e2,rfl⟩ | ⟨j,u,e,hu,hrel⟩
  ·exact .inl ⟨rfl,.inl ⟨rfl,by show vG ρ st.hp.nx φ i=none;unfold vG;rw[e]⟩⟩
  ·exact hrel (hR.heap.obj j u hu)
 ·obtain⟨j,e,hp'⟩:=kS hp
  rcases hobj i o hi with⟨e',_⟩ | ⟨j',u,e',hu,_⟩
  ·rw[e] at e';cases e'
  ·rw[e] at e';cases e'
   exact hR.heap.own j u b s' k hu hp'
 ·obtain⟨i',e,hp1⟩:=kS hpi
  obtain⟨j',e',hp2⟩:=kS hpj
  rcases hobj i oi hi with⟨e1,_⟩ | ⟨i2,u,e1,hu,_⟩
  ·rw[e] at e1;cases e1
  ·rcases hobj j oj hj with⟨e3,_⟩ | ⟨j2,u',e3,hu',_⟩
   ·rw[e'] at e3;cases e3
   ·rw[e] at e1;cases e1
    rw[e'] at e3;cases e3
    have:= hR.heap.inj i' j' u u' b s1 k1 s2 k2 hu hu' hp1 hp2
    subst this
    exact R.inj i j i' e e'
 ·obtain⟨j,e,_⟩:=kS hp
  exact R.dom i j e
 ·rcases iC (fun p hp=>h3 _ (aZ hp)) (show(bD (Sg.aL reg ls s) (dJ (ls.flatMap Ld.names) st.hp.h)).get i=some o from hi) with h | h
  ·obtain⟨q,q1,_⟩:=ho i o h
   exact R.key i q q1
  ·rw[dE h3] at h
   split at h
   ·cases h
   ·exact gq (hlt i o h) R.le'
 ·refine⟨hG.os,hG.tape,hG.output,hG.size,hG.block,hG.fsub,hG.fnew,fun i hi=>?_,fun i hi=>gq hi (dm R.le R.le'),fun b ⟨i,o,s',k,hi,hp⟩=>?_,fun i p hp=>?_⟩
  ·rw[←hG.phi i hi]
   unfold vG
   rw[R.self i hi]
  ·obtain⟨j,e,hp'⟩:=kS hp
   rcases hobj i o hi with⟨e',_⟩ | ⟨j',u,e',hu,_⟩
   ·rw[e] at e';cases e'
   ·rw[e] at e';cases e'
    exact hG.dom b ⟨j,u,s',k,hu,hp'⟩
  ·obtain⟨j,e,hp'⟩:=kS hp
   rcases hG.new j p hp' with h | h
   ·left
    have: i=j:=R.inj i j j e (R.self j h)
    subst this
    exact h
   ·exact .inr h
end
end Go.W
namespace Go.W
open Go Go.RowKit
def qJU:Kd→Bool
 | .own _ _ _=>true
 | _=>false
def bV{T:Nat→Type}(env:Tr (V T)):List Ld→List (Nat×V T)
 | []=>[]
 | .slot t k::ls=>(match qJU k,env.get t with
  | false,some v=>(t,v)::bV env ls
  | _,_=>bV env ls)
 | _::ls=>bV env ls
def qC{T:Nat→Type}:List (V T)→List Nat→List Nat
 | [],l=>l
 | v::vs,l=>qC vs (match v with
  | .sl i _ _ _=>addN l i
  | .agg us=>goL us l
  | _=>l)
where goL {T:Nat→Type}:List (V T)→List Nat→List Nat
 | [],l=>l
 | v::vs,l=>goL vs (match v with
  | .sl i _ _ _=>addN l i
  | _=>l)
def yT(reg:Reg):List Kd→List (V reg.T)→List (V reg.T)
 | [],_=>[]
 | k::ks,cs=>(match qJU k with
  | true=>yT reg ks (cs.drop (k.w reg))
  | false=>cs.take (k.w reg)++yT reg ks (cs.drop (k.w reg)))
def qM8(reg:Reg)(env:Tr (V reg.T))(g:Nat→Option (O reg.T)):List Ld→List Nat→List Nat
 | [],l=>l
 | .obj i ks::ls,l=>qM8 reg env g ls (match g i with
  | some (.rows _ [cs])=>qC (yT reg ks cs) l
  | _=>l)
 | .ptr t _ ks::ls,l=>qM8 reg env g ls (match env.get t with
  | some (.ptr i _ _)=>(match g i with
   | some (.rows _ [cs])=>qC (yT reg ks cs) l
   | _=>l)
  | _=>l)
 | _::ls,l=>qM8 reg env g ls l
def qHe{T:Nat→Type}(g:Nat→Option (O T))(l:List Nat):List Nat:=l.foldl (fun a i=>wP (g i) a) []++l
def qDw{T:Nat→Type}:List (Nat×V T)→List (V T)→List (Nat×V T)
 | (t,_)::l,v::vs=>(t,v)::qDw l vs
 | _,_=>[]
section
variable (reg:Reg)
def qBk(ls:List Ld)(st:St reg.T):Out (St reg.T):=match qM8 reg st.env st.hp.get ls (qC ((bV st.env ls).map (·.2)) []) with
 | []=>.ret st
 | i::l=>(rE reg (List.range st.hp.nx) (qHe st.hp.get (i::l)) (.tup ((bV st.env ls).map (·.2)),st.hp)).bind fun r=>(match r.1 with
  | .tup vs=>.ret ⟨bD (qDw (bV st.env ls) vs) st.env,r.2⟩
  | _=>.bad)
end
section
variable {reg:Reg} {P:Program} {nt:Nat}
theorem eG{T:Nat→Type}{env:Tr (V T)}:∀{ls:List Ld} {t:Nat} {v:V T},(t,v)∈bV env ls→env.get t=some v∧t∈ls.flatMap Ld.slots
 | [],t,v,h=>by simp[bV] at h
 | .slot u k::ls,t,v,h=>by
  simp only[bV] at h
  split at h
  ·rename_i w _ hw
   rcases fu.1 h with e | e
   ·cases e;exact⟨hw,by simp[Ld.slots]⟩
   ·have:= eG e;exact⟨this.1,by simp only[ib,dw];exact .inr this.2⟩
  ·have:= eG h;exact⟨this.1,by simp only[ib,dw];exact .inr this.2⟩
 | .obj i ks::ls,t,v,h=>by
  have:= eG (ls:=ls) (by simpa only[bV] using h)
  exact⟨this.1,by simp only[ib,dw];exact .inr this.2⟩
 | .rows i e::ls,t,v,h=>by
  have:= eG (ls:=ls) (by simpa only[bV] using h)
  exact⟨this.1,by simp only[ib,dw];exact .inr this.2⟩
 | .ptr _ _ _::ls,t,v,h=>by
  have:= eG (ls:=ls) (by simpa only[bV] using h)
  exact⟨this.1,by simp only[ib,dw];exact .inr this.2⟩
 | .sit _::ls,t,v,h=>by
  have:= eG (ls:=ls) (by simpa only[bV] using h)
  exact⟨this.1,by simp only[ib,dw];exact .inr this.2⟩
 | .gone _::ls,t,v,h=>by
  have:= eG (ls:=ls) (by simpa only[bV] using h)
  exact⟨this.1,by simp only[ib,dw];exact .inr this.2⟩
theorem qBl{T:Nat→Type}:∀{l:List (Nat×V T)} {vs:List (V T)} {t:Nat} {v:V T},(t,v)∈qDw l vs→∃(j:Nat) (u:V T),l[j]? = some (t,u)∧vs[j]? = some v
 | [],_,t,v,h=>by simp[qDw] at h
 | _::_,[],t,v,h=>by simp[qDw] at h
 | (u,x)::l,y::vs,t,v,h=>by
  simp only[qDw,fu] at h
  rcases h with e | e
  ·cases e;exact⟨0,x,rfl,rfl⟩
  ·obtain⟨j,z,h1,h2⟩:=qBl e;exact⟨j+1,z,by simpa using h1,by simpa using h2⟩
theorem vI{α:Type}:∀{l:List (Nat×α)} {t:Tr α},(∀p∈l,Tr.ok p.1=true)→∀{i:Nat},(∀p∈l,p.1≠i)→(bD l t).get i=t.get i
 | [],t,_,i,_=>rfl
 | (j,x)::l,t,hk,i,h=>by
  simp only[bD]
  rw[Tr.dG (hk (j,x) (by simp)),if_neg (fun e=>h (j,x) (by simp) e.symm)]
  exact vI (fun p hp=>hk p (by simp[hp])) (fun p hp=>h p (by simp[hp]))
theorem qJV{ls:List Ld}{st st':St reg.T}(hs:∀t∈ls.flatMap Ld.slots,Tr.ok t=true)(hK:(qBk reg ls st).K (·= st')) :
  (∀t,t ∉ ls.flatMap Ld.slots→st'.env.get t=st.env.get t)∧∀{n0:Nat} {F0:Nat→Prop} {φ0:Phi} {H0:Nat→Option (O reg.T)} {w0:World} {a:Act} {w:World},RA n0 F0 φ0 H0 w0 nt st a w→Grow st.hp st'.hp∧RA n0 F0 φ0 H0 w0 nt st' a w:=by
 unfold qBk at hK
 split at hK
 ·cases hK
  exact⟨fun _ _=>rfl,fun h=>⟨Grow.refl _,h⟩⟩
 ·rw[Out.aU] at hK
  obtain⟨r,h1,h2⟩:=(Out.bP _ _).1 hK
  have ht:=nV (h0:=st.hp) h1
  split at h2
  ·rename_i vs hv
   cases h2
   have hz:∀p∈qDw (bV st.env ls) vs,p.1∈ls.flatMap Ld.slots:=by
    intro p hp
    obtain⟨j,u,e1,_⟩:=qBl (t:=p.1) (v:=p.2) hp
    exact(eG (ll e1)).2
   refine⟨fun t htn=>vI (fun p hp=>hs _ (hz p hp)) (fun p hp e=>htn (e▸hz p hp)),fun{n0 F0 φ0 H0 w0 a w} hRA=>?_⟩
   obtain⟨N,F,φ,hN,hR,hG⟩:=hRA
   let cargs:Array Value:=((bV st.env ls).map fun p=>a.tmps.getD p.1 undef).toArray
   have hl:eF F w φ ((bV st.env ls).map (·.2)) cargs:=by
    refine⟨by simp[cargs],fun j hj=>?_⟩
    rw[iq] at hj
    have h3:(bV st.env ls)[j]? = some (bV st.env ls)[j]:=gu hj
    have h4:=eG (t:=(bV st.env ls)[j].1) (v:=(bV st.env ls)[j].2) (l9 hj)
    have h5:=(hR.env _ _ h4.1).2
    simpa [cargs,List.getD,hj] using h5
   obtain⟨v2,h',N',F',φ',e,hv',hH',hG'⟩:=ht.2 N F φ w (.tuple cargs) w ⟨_,st.hp,N,F,φ,rfl,.tup _ cargs hl.1 hl.2,hR.heap,GO.refl hR.heap⟩
   subst e
   have hv:v2=.tup vs:=hv
   subst hv
   cases hv' with
   | tup _ _ hzz hh =>
    refine⟨hG'.grow,RA.go hN hG (st':=⟨bD (qDw (bV st.env ls) vs) st.env,h'⟩) ⟨fun t v htv=>?_,hR.size,hH',hR.dfs⟩ hG'⟩
    rcases iC (fun p hp=>hs _ (hz p hp)) (show(bD (qDw (bV st.env ls) vs) st.env).get t=some v from htv) with e1 | e1
    ·obtain⟨j,u,e2,e3⟩:=qBl e1
     have e4:=eG (ll e2)
     have hj:j<vs.length:=(eu.1 e3).1
     refine⟨(hR.env t u e4.1).1,?_⟩
     have h6:=hh j hj
     have e5:vs.getD j .any=v:=by simp[List.getD,e3]
     have e7:j<(bV st.env ls).length:=(eu.1 e2).1
     have e8:(bV st.env ls)[j]=(t,u):=(eu.1 e2).2
     have e6:cargs.getD j undef=a.tmps.getD t undef:=by simp[cargs,Array.getD,e7,e8]
     rw[e5,e6] at h6
     exact h6
    ·obtain⟨g1,g2⟩:=hR.env t v e1
     exact⟨g1,aA.mono reg (fun b hb=>⟨hG'.goes.fsub b hb,rfl⟩) (fun i p hp=>(hG'.goes.phi i (hR.heap.dom i p hp)).trans hp) g2⟩
  ·exact h2.elim
end
section
universe u
variable {T:Nat→Type}
def qAd{α:Type}{β:Sort u}:Nat→Tr α→Nat→Option α→(Tr α→β)→β
 | 0,t,_,_,k=>k t
 | f+1,t,p,x,k=>(match t with
  | .e=>(match Nat.beq p 1 with
   | true=>k (.n .e x .e)
   | false=>(match Nat.beq (Nat.mod p 2) 0 with
    | true=>qAd f .e (Nat.div p 2) x fun l=>k (.n l none .e)
    | false=>qAd f .e (Nat.div p 2) x fun r=>k (.n .e none r)))
  | .n l v r=>(match Nat.beq p 1 with
   | true=>k (.n l x r)
   | false=>(match Nat.beq (Nat.mod p 2) 0 with
    | true=>qAd f l (Nat.div p 2) x fun l=>k (.n l v r)
    | false=>qAd f r (Nat.div p 2) x fun r=>k (.n l v r))))
theorem rR{α:Type}{β:Sort u}:∀(f:Nat) (t:Tr α) (p:Nat) (x:Option α) (k:Tr α→β),qAd f t p x k=k (Tr.uG f t p x)
 | 0,t,p,x,k=>rfl
 | f+1,t,p,x,k=>by
  cases t with
  | e =>
   simp only[qAd,Tr.uG]
   cases Nat.beq p 1 with
   | true=>rfl
   | false =>
    cases Nat.beq (Nat.mod p 2) 0 with
    | true=>exact rR f _ _ _ _
    | false=>exact rR f _ _ _ _
  | n l v r =>
   simp only[qAd,Tr.uG]
   cases Nat.beq p 1 with
   | true=>rfl
   | false =>
    cases Nat.beq (Nat.mod p 2) 0 with
    | true=>exact rR f _ _ _ _
    | false=>exact rR f _ _ _ _
def qCb{β:Sort u}(st:St T)(dst:Option Nat)(v:V T)(k:St T→β):β:=match dst with
 | some d=>vS v fun v=>qAd 64 st.env (d+1) (some v) fun env=>k ⟨env,st.hp⟩
 | none=>k st
theorem jP{β:Sort u}(st:St T)(dst:Option Nat)(v:V T)(k:St T→β):qCb st dst v k=k (st.put dst v):=by
 cases dst with
 | none=>rfl
 | some d=>simp only[qCb];rw[wU,rR];rfl
def trH{α:Type}{β:Sort u}(t:Tr α)(k:Tr α→β):β:=match t with
 | .e=>k .e
 | .n l v r=>k (.n l v r)
theorem qOT{α:Type}{β:Sort u}(t:Tr α)(k:Tr α→β):trH t k=k t:=by cases t<;>rfl
def qJW:Op→Bool
 | .move _=>true
 | .assign _=>true
 | .pick _ _ _=>true
 | .fieldAddr _ _ _=>true
 | .load _ _=>true
 | .nilCheck _=>true
 | .binOp _ _ _ _ _=>true
 | .unOp _ _ _=>true
 | .indexAddr _ _ _=>true
 | .index _ _ _=>true
 | .field _ _ _=>true
 | .extract _ _=>true
 | _=>false
def lnH{β:Sort u}(l:List Nat)(k:List Nat→β):β:=match l with
 | []=>k []
 | n::l=>k (n::l)
theorem qJX{β:Sort u}(l:List Nat)(k:List Nat→β):lnH l k=k l:=by cases l<;>rfl
def hpS{β:Sort u}(o:Op)(h:Hp T)(k:Hp T→β):β:=match qJW o with
 | true=>trH h.h fun t=>qBe h.nx fun n=>lnH h.wr fun wr=>k ⟨t,n,wr⟩
 | false=>trS oS h.h fun t=>qBe h.nx fun n=>lnH h.wr fun wr=>k ⟨t,n,wr⟩
theorem nJ{β:Sort u}(o:Op)(h:Hp T)(k:Hp T→β):hpS o h k=k h:=by
 unfold hpS
 cases qJW o with
 | true=>simp only[];rw[qOT,gK,qJX]
 | false=>simp only[];rw[iD qC1,gK,qJX]
end
def qIB(ops:Array Oper)(o:Oper)(m:Nat):List Oper→Nat→Bool
 | [],_=>true
 | p::ps,n=>(match m.testBit (Nat.sub n 1) with
  | true=>qIB ops o m ps (Nat.sub n 1)
  | false=>(match p.apart ops o with | true=>qIB ops o m ps (Nat.sub n 1) | false=>false))
def qEz(ops:Array Oper):List Oper→List Nat→List Oper→Nat→Bool
 | [],_,_,_=>true
 | _::_,[],_,_=>false
 | o::l,m::ms,prev,n=>(match qIB ops o m prev n with | true=>qEz ops l ms (o::prev) (n+1) | false=>false)
theorem yU{ops:Array Oper}{o:Oper}{m:Nat}:∀{prev:List Oper} {n:Nat},n=prev.length→qIB ops o m prev n=true→∀(i:Nat) (p:Oper),prev.reverse[i]? = some p→m.testBit i=false→p.apart ops o=true
 | [],_,_,_,i,p,hp,_=>by simp at hp
 | q::ps,n,hn,h,i,p,hp,hm=>by
  have hn1:Nat.sub n 1=ps.length:=by rw[hn];simp
  rw[qb] at hp
  rcases ja i ps.length with hi | hi
  ·rw[j4 (by simpa using hi)] at hp
   simp only[qIB] at h
   split at h
   ·exact yU hn1 h i p hp hm
   ·split at h
    ·exact yU hn1 h i p hp hm
    ·cases h
  ·rw[iw (by simpa using hi)] at hp
   have hi2:i=ps.length:=by
    have:= (eu.1 hp).1
    simp at this
    omega
   subst hi2
   simp at hp
   subst hp
   simp only[qIB,hn1,hm] at h
   split at h
   ·rename_i hq;exact hq
   ·cases h
theorem qBm{ops:Array Oper}:∀{l:List Oper} {ms:List Nat} {prev:List Oper} {n:Nat},n=prev.length→qEz ops l ms prev n=true→∀(j:Nat) (o:Oper),l[j]? = some o →
  ∃m,ms[j]? = some m∧∀(i:Nat) (p:Oper),(prev.reverse++l)[i]? = some p→i<prev.length+j→m.testBit i=false→p.apart ops o=true
 | [],_,_,_,_,_,j,o,hj=>by simp at hj
 | _::_,[],_,_,_,h,_,_,_=>by simp only[qEz,iy] at h
 | o0::l,m0::ms,prev,n,hn,h,j,o,hj=>by
  simp only[qEz] at h
  split at h
  ·rename_i hr
   cases j with
   | zero =>
    simp at hj
    subst hj
    refine⟨m0,by simp,fun i p hp hi hm=>?_⟩
    rw[j4 (by simpa using hi)] at hp
    exact yU hn hr i p hp hm
   | succ j =>
    obtain⟨m,h1,h2⟩:=qBm (prev:=o0::prev) (n:=n+1) (by simp[hn]) h j o (by simpa using hj)
    refine⟨m,by simpa using h1,fun i p hp hi hm=>h2 i p ?_ (by simp;omega) hm⟩
    rw[qb,gm]
    exact hp
  ·cases h
def qFS(ms:List Nat)(a b:eB):Bool :=
 match Nat.blt a.at_ b.at_ with
 | true=>(match (ms.getD b.at_ 0).testBit a.at_ with | true=>true | false=>a.apart b)
 | false=>(match Nat.blt b.at_ a.at_ with
  | true=>(match (ms.getD a.at_ 0).testBit b.at_ with | true=>true | false=>b.apart a)
  | false=>true)
def noW(a:eB):Bool:=match a.wr with | []=>true | _::_=>false
def nX(ops:Array Oper)(tr:List eB):Bool :=
 match back ops.toList 0&&qEz ops ops.toList (masks ops.toList []) [] 0 with
 | true=>(match tr.all fun f=>Nat.blt f.at_ ops.size with
  | true=>tr.all fun a=>(match noW a with | true=>true | false=>tr.all (qFS (masks ops.toList []) a))
  | false=>false)
 | false=>false
theorem qIC{a b:eB}(ha:noW a=true)(hb:noW b=true):a.apart b=true:=by
 unfold noW at ha hb
 split at ha
 ·rename_i h1
  split at hb
  ·rename_i h2
   simp[eB.apart,h1,h2,meets]
  ·cases hb
 ·cases ha
theorem qAe{ops:Array Oper}{tr:List eB}(h:nX ops tr=true):wE ops tr=true:=by
 unfold nX at h
 split at h
 ·rename_i hb
  obtain⟨hb,hs⟩:=o5.1 hb
  split at h
  ·rename_i hl
   unfold wE
   simp only[hb,oq,ek]
   intro b hbm a ham
   cases hlt:Nat.blt a.at_ b.at_ with
   | false=>rfl
   | true =>
    cases ht:((masks ops.toList []).getD b.at_ 0).testBit a.at_ with
    | true=>simp
    | false =>
     have h1:a.at_<b.at_:=by simpa using hlt
     have h2:b.at_<ops.size:=by simpa using ek.1 hl b hbm
     have e2:ops.toList[b.at_]? = some ops[b.at_]:=by simp[h2]
     have e1:ops.toList[a.at_]? = some (ops[a.at_]'(by omega)):=by simp
     obtain⟨m,hm,hst⟩:=qBm rfl hs b.at_ _ e2
     have hbit:m.testBit a.at_=false:=by simpa [List.getD,hm] using ht
     have hap:(ops[a.at_]'(by omega)).apart ops ops[b.at_]=true:=hst a.at_ _ e1 (by simpa using h1) hbit
     have hdy:a.apart b=true:=by
      have ha:=ek.1 h a ham
      have hb':=ek.1 h b hbm
      cases na:noW a with
      | false =>
       rw[na] at ha
       have:= ek.1 ha b hbm
       unfold qFS at this
       rw[hlt,ht] at this
       exact this
      | true =>
       cases nb:noW b with
       | true=>exact qIC na nb
       | false =>
        rw[nb] at hb'
        have:= ek.1 hb' a ham
        unfold qFS at this
        have hgt:Nat.blt b.at_ a.at_=false:=by
         cases hx:Nat.blt b.at_ a.at_ with
         | false=>rfl
         | true=>have: b.at_<a.at_:=(by simpa using hx);omega
        rw[hgt,hlt,ht] at this
        exact this
     have e1':ops[a.at_]? = some (ops[a.at_]'(by omega)):=by simp
     have e2':ops[b.at_]? = some ops[b.at_]:=by simp[h2]
     simp[e1',e2',hap,hdy]
  ·cases h
 ·cases h
section
variable (reg:Reg) (P:Program)
def qBn(hd:Hd reg.T)(nt:Nat)(ops:Array Oper):List Oper→St reg.T→Out (St reg.T)
 | [],st=>.ret st
 | o::rest,st =>
  match gL nt o.dst with
  | false=>.bad
  | true =>
  let run (st:St reg.T):Out (St reg.T):=(dO P hd o.op (valOf st.env.get) st.hp).bind fun r=>Out.ask (Nat.ble st.hp.nx r.2.nx) (hpS o.op r.2 fun h=>qCb ⟨st.env,h⟩ o.dst r.1 fun st=>qBn hd nt ops rest st)
  let skip (st:St reg.T):Out (St reg.T):=qCb st o.dst .undef fun st=>qBn hd nt ops rest st
  match o.guard with
  | none=>run st
  | some (j,want) =>
   match (ops[j]?).bind (·.dst) with
   | none=>.bad
   | some d =>
    match st.env.get d with
    | some (.d (.bool b)) =>
     .br b (match want with | true=>run (st.fix d true) | false=>skip (st.fix d true)) (match want with | true=>skip (st.fix d false) | false=>run (st.fix d false))
    | some .undef=>skip st
    | _=>.bad
def xB(hd:Hd reg.T)(nt:Nat)(ops:Array Oper):List Oper→Nat→St reg.T→List eB→Out (St reg.T×List eB)
 | [],_,st,tr=>.ret (st,tr)
 | o::rest,n,st,tr =>
  match gL nt o.dst with
  | false=>.bad
  | true =>
  let run (st:St reg.T):Out (St reg.T×List eB) :=
   lnS (bQ o.op (valOf st.env.get) st.hp.get) fun l =>
   (dO P hd o.op (valOf st.env.get) (fQ st.hp.get st.hp.nx l)).bind fun r=>qBe r.2.nx fun nx=>lnS r.2.wr fun wr0 =>
    lnS (r.2.wr++List.range' st.hp.nx (r.2.nx-st.hp.nx)) fun wr =>
    Out.ask (iA l wr0 st.hp.nx nx) (hpS o.op (st.hp.join r.2 wr) fun h=>qCb ⟨st.env,h⟩ o.dst r.1 fun st1=>xB hd nt ops rest (n+1) st1 (⟨n,l,wr,st.hp.nx,nx⟩::tr))
  let skip (st:St reg.T):Out (St reg.T×List eB):=qCb st o.dst .undef fun st1=>xB hd nt ops rest (n+1) st1 (⟨n,[],[],st.hp.nx,st.hp.nx⟩::tr)
  match o.guard with
  | none=>run st
  | some (j,want) =>
   match (ops[j]?).bind (·.dst) with
   | none=>.bad
   | some d =>
    match st.env.get d with
    | some (.d (.bool b)) =>
     .br b (match want with | true=>run (st.fix d true) | false=>skip (st.fix d true)) (match want with | true=>skip (st.fix d false) | false=>run (st.fix d false))
    | some .undef=>skip st
    | _=>.bad
def qDx(hd:Hd reg.T)(nt:Nat)(ops:Array Oper)(draw:Bool)(st:St reg.T):Out (St reg.T) :=
 match draw with
 | false=>qBn reg P hd nt ops ops.toList st
 | true=>(xB reg P hd nt ops ops.toList 0 st []).bind fun r=>Out.ask (nX ops r.2) (.ret r.1)
end
section
variable {reg:Reg} {P:Program}
theorem qC6(hd:Hd reg.T)(nt:Nat)(ops:Array Oper):∀(l:List Oper) (st:St reg.T),qBn reg P hd nt ops l st=eT P hd nt ops l st
 | [],st=>rfl
 | o::rest,st=>by
  have ih:=qC6 hd nt ops rest
  simp only[qBn,eT,nJ,jP,ih]
  rfl
theorem qBo(hd:Hd reg.T)(nt:Nat)(ops:Array Oper):∀(l:List Oper) (n:Nat) (st:St reg.T) (tr:List eB),xB reg P hd nt ops l n st tr=eY P hd nt ops l n st tr
 | [],n,st,tr=>rfl
 | o::rest,n,st,tr=>by
  have ih:=qBo hd nt ops rest
  simp only[xB,eY,nJ,jP,vF,gK,ih]
  rfl
theorem qE0{hd:Hd reg.T}{nt:Nat}{ops:Array Oper}{draw:Bool}{st:St reg.T}{Q:St reg.T→Prop}(h:(qDx reg P hd nt ops draw st).K Q):(lC P hd nt ops draw st).K Q:=by
 cases draw with
 | false=>rw[qDx,qC6] at h;exact h
 | true =>
  simp only[qDx,lC,qBo,Out.aU] at h ⊢
  exact Out.bN h fun r hr=>by
   obtain⟨h1,h2⟩:=Out.bG.1 hr
   exact Out.bG.2 ⟨qAe h1,h2⟩
end
section
variable (reg:Reg) (P:Program)
def defs:Code→List Nat
 | .region _ ops _=>ops.toList.filterMap (·.dst)
 | .seq a b=>defs a++defs b
 | .cond _ a b=>defs a++defs b
 | .block _ c=>defs c
 | .loop c=>defs c
 | .scope c=>defs c
 | _=>[]
def qJY{T:Nat→Type}{α:Type}(k:St T→DT α)(Q:aH×St T→DT α)(r:aH×St T):DT α:=match r.1 with
 | .normal=>k r.2
 | _=>Q r
def qDy{T:Nat→Type}{α:Type}(id:Nat)(Q:aH×St T→DT α)(r:aH×St T):DT α:=match r.1 with
 | .exit j=>(match Nat.beq j id with | true=>Q (.normal,r.2) | false=>Q r)
 | _=>Q r
def qAf{α:Type}(n0:Nat)(D:List Nat)(ls:List Ld)(st:St reg.T)(k:aH×St reg.T→DT α)(r:aH×St reg.T):DT (Sg reg ls ⊕ α):=match r.1 with
 | .normal=>DT.bI (qBk reg ls r.2) fun st2=>(match nI reg ls st2 with
  | some (b,s,ρ)=>(match qAb reg n0 D ls st ρ st2 with | true=>wW b (.ret (.inl s)) | false=>.bad)
  | none=>.bad)
 | .exit id=>(k (.exit id,r.2)).map .inr
 | .ret=>(k (.ret,r.2)).map .inr
def qE1{T:Nat→Type}{α:Type}(body:(aH×St T→DT α)→St T→DT α):Nat→(aH×St T→DT α)→St T→DT α
 | 0,_,_=>.bad
 | n+1,k,st=>body (qJY (qE1 body n k) k) st
abbrev ExR(T:Nat→Type):=Array Oper→Bool→St T→(α:Type)→(St T→DT α)→DT α
def gD(ex:ExR reg.T)(fuel n0:Nat)(L J:Nat→St reg.T→Option (List Ld)):Code→{α:Type}→(aH×St reg.T→DT α)→St reg.T→DT α
 | .skip,_,k,st=>k (.normal,st)
 | .region _ ops draw,_,k,st=>ex ops draw st _ fun st=>k (.normal,st)
 | .seq a b,_,k,st=>(match J (mQ b) st with
  | none=>gD ex fuel n0 L J a (qJY (gD ex fuel n0 L J b k) k) st
  | some ls=>(match qAp (defs a) ls with
   | true=>.join (gD ex fuel n0 L J a (qAf reg n0 (defs a) ls st k) st) (fun s=>stS (qAo reg (defs a) ls st s) fun st=>gD ex fuel n0 L J b k st)
   | false=>.bad))
 | .cond c a b,_,k,st=>(match c with
  | .tmp t=>(match st.env.get t with
   | some (.d (.bool v))=>.br v (gD ex fuel n0 L J a k (st.fix t true)) (gD ex fuel n0 L J b k (st.fix t false))
   | _=>.bad)
  | .const u=>(match u with
   | .bool v=>(match v with
    | true=>gD ex fuel n0 L J a k st
    | false=>gD ex fuel n0 L J b k st)
   | _=>.bad)
  | _=>.bad)
 | .block id c,_,k,st=>gD ex fuel n0 L J c (qDy id k) st
 | .loop c,_,k,st=>(match L (mQ c) st with
  | none=>qE1 (fun k st=>gD ex fuel n0 L J c k st) fuel k st
  | some ls=>(match qAp (defs c) ls with
   | true=>DT.bI (qBk reg ls st) fun st=>stS st fun st=>(match nI reg ls st with
    | some (b,s0,ρ)=>(match qAb reg n0 (defs c) ls st ρ st with
     | true=>wW b (.loop s0 fun s=>stS (qAo reg (defs c) ls st s) fun st1=>gD ex fuel n0 L J c (qAf reg n0 (defs c) ls st k) st1)
     | false=>.bad)
    | none=>.bad)
   | false=>.bad))
 | .exit id,_,k,st=>k (.exit id,st)
 | .ret,_,k,st=>k (.ret,st)
 | .scope c,_,k,st=>gD ex fuel n0 L J c k st
 | .label _,_,k,st=>k (.normal,st)
 | _,_,_,_=>.bad
def exD(hd:Hd reg.T)(nt:Nat):ExR reg.T:=fun ops draw st _ k=>DT.bI (qDx reg P hd nt ops draw st) k
def awd(hd:Hd reg.T)(nt fuel n0:Nat)(L J:Nat→St reg.T→Option (List Ld))(c:Code){α:Type}(k:aH×St reg.T→DT α)(st:St reg.T):DT α:=gD reg (exD reg P hd nt) fuel n0 L J c k st
def noL{T:Nat→Type}(_:Nat)(_:St T):Option (List Ld):=none
def qDz{α:Type}(hd:Hd reg.T)(fuel:Nat)(L J:Nat→St reg.T→Option (List Ld))(fn:Func)(args:List (V reg.T))(h:Hp reg.T)(k:V reg.T×Hp reg.T→DT α):DT α :=
 match fn.body with
 | none=>.bad
 | some c=>(match Nat.ble args.length fn.ntmps&&Nat.ble fn.ntmps 1000000 with
  | true=>awd reg P hd fn.ntmps fuel h.nx L J c (fun r=>DT.bI ((iW P fn r).bind fun q=>fZ reg ⟨h.h,h.nx,[]⟩ (q.1,⟨q.2.h,q.2.nx,List.range h.nx⟩)) k) ⟨dP args 0 .e,h⟩
  | false=>.bad)
end
section
variable {reg:Reg} {P:Program} {hd:Hd reg.T} {nt:Nat}
def aS(D:List Nat)(st st':St reg.T):Prop:=∀t,fI D t=false→st'.env.get t=st.env.get t
theorem aS.refl(D:List Nat)(st:St reg.T):aS D st st:=fun _ _=>rfl
theorem aS.trans{D:List Nat}{a b c:St reg.T}(h1:aS D a b)(h2:aS D b c):aS D a c:=fun t ht=>(h2 t ht).trans (h1 t ht)
theorem qJZ{D D':List Nat}(h:∀t∈D,t∈D'){t:Nat}(ht:fI D' t=false):fI D t=false:=by
 cases hb:fI D t with
 | false=>rfl
 | true=>rw[bZ.2 (h t (bZ.1 hb))] at ht;cases ht
theorem aS.sub{D D':List Nat}{a b:St reg.T}(h:aS D a b)(hs:∀t∈D,t∈D'):aS D' a b:=fun t ht=>h t (qJZ hs ht)
theorem nY(hnt:nt≤1000000){o:Oper}{l:List Oper}(hd':gL nt o.dst=true)(st:St reg.T)(v:V reg.T):aS ((o::l).filterMap (·.dst)) st (st.put o.dst v):=by
 intro t ht
 cases hdst:o.dst with
 | none=>rfl
 | some d =>
  rw[hdst] at hd'
  have hlt:d<nt:=bz hd'
  have hok:Tr.ok d=true:=fw (show d+1≤9223372036854775807 from dm hlt (dm hnt (by decide)))
  show(st.env.set d (some v)).get t=_
  rw[Tr.dG hok,if_neg]
  intro e
  subst e
  have: fI ((o::l).filterMap (·.dst)) t=true:=bZ.2 (by simp[hdst])
  rw[this] at ht;cases ht
theorem nZ{o:Oper}{l:List Oper}{a b:St reg.T}(h:aS (l.filterMap (·.dst)) a b):aS ((o::l).filterMap (·.dst)) a b :=
 h.sub fun t ht=>by
  simp only[List.mem_filterMap] at ht ⊢
  obtain⟨x,hx,e⟩:=ht
  exact⟨x,by simp[hx],e⟩
theorem vJ(hnt:nt≤1000000){ops:Array Oper}:∀(rest:List Oper) (st:St reg.T) (Q:St reg.T→Prop),(eT P hd nt ops rest st).K Q→(eT P hd nt ops rest st).K fun st'=>Q st'∧aS (rest.filterMap (·.dst)) st st'
 | [],st,Q,h=>⟨h,aS.refl _ _⟩
 | o::rest,st,Q,h=>by
  simp only[eT] at h ⊢
  cases hdo:gL nt o.dst with
  | false=>rw[hdo] at h;exact h.elim
  | true =>
   rw[hdo] at h
   simp only at h ⊢
   have run:∀st1:St reg.T,aS ((o::rest).filterMap (·.dst)) st st1→((dO P hd o.op (valOf st1.env.get) st1.hp).bind fun r=>Out.ask (Nat.ble st1.hp.nx r.2.nx) (eT P hd nt ops rest (St.put ⟨st1.env,r.2⟩ o.dst r.1))).K Q →
     ((dO P hd o.op (valOf st1.env.get) st1.hp).bind fun r=>Out.ask (Nat.ble st1.hp.nx r.2.nx) (eT P hd nt ops rest (St.put ⟨st1.env,r.2⟩ o.dst r.1))).K fun st'=>Q st'∧aS ((o::rest).filterMap (·.dst)) st st':=by
    intro st1 hk h
    rw[Out.aU] at h ⊢
    refine Out.bN h fun r hr=>?_
    obtain⟨h1,h2⟩:=Out.bG.1 hr
    refine Out.bG.2 ⟨h1,Out.bN (vJ hnt rest _ Q h2) fun st' h3=>⟨h3.1,hk.trans ?_⟩⟩
    have h4:aS ((o::rest).filterMap (·.dst)) st1 (St.put ⟨st1.env,r.2⟩ o.dst r.1):=nY (l:=rest) hnt hdo ⟨st1.env,r.2⟩ r.1
    exact h4.trans (nZ h3.2)
   have skip:∀st1:St reg.T,aS ((o::rest).filterMap (·.dst)) st st1→(eT P hd nt ops rest (st1.put o.dst .undef)).K Q→(eT P hd nt ops rest (st1.put o.dst .undef)).K fun st'=>Q st'∧aS ((o::rest).filterMap (·.dst)) st st':=by
    intro st1 hk h
    exact Out.bN (vJ hnt rest _ Q h) fun st' h3=>⟨h3.1,(hk.trans (nY (l:=rest) hnt hdo st1 .undef)).trans (nZ h3.2)⟩
   split at h
   ·exact run st (aS.refl _ _) h
   ·rename_i j want hg
    split at h
    ·exact h.elim
    ·rename_i d hd'
     split at h
     ·rename_i b hb
      cases b with
      | true =>
       have hf:=St.eQ hb
       simp only[Out.K,branch] at h ⊢
       rw[hf] at h ⊢
       cases want with
       | true=>exact run st (aS.refl _ _) h
       | false=>exact skip st (aS.refl _ _) h
      | false =>
       have hf:=St.eQ hb
       simp only[Out.K,branch] at h ⊢
       rw[hf] at h ⊢
       cases want with
       | true=>exact skip st (aS.refl _ _) h
       | false=>exact run st (aS.refl _ _) h
     ·exact skip st (aS.refl _ _) h
     ·exact h.elim
theorem rT(hnt:nt≤1000000){ops:Array Oper}:∀(rest:List Oper) (n:Nat) (st:St reg.T) (tr:List eB) (Q:St reg.T×List eB→Prop),(eY P hd nt ops rest n st tr).K Q→(eY P hd nt ops rest n st tr).K fun r=>Q r∧aS (rest.filterMap (·.dst)) st r.1
 | [],n,st,tr,Q,h=>⟨h,aS.refl _ _⟩
 | o::rest,n,st,tr,Q,h=>by
  simp only[eY] at h ⊢
  cases hdo:gL nt o.dst with
  | false=>rw[hdo] at h;exact h.elim
  | true =>
   rw[hdo] at h
   simp only at h ⊢
   have run:∀st1:St reg.T,aS ((o::rest).filterMap (·.dst)) st st1→((dO P hd o.op (valOf st1.env.get) (fQ st1.hp.get st1.hp.nx (bQ o.op (valOf st1.env.get) st1.hp.get))).bind fun r =>
      Out.ask (iA (bQ o.op (valOf st1.env.get) st1.hp.get) r.2.wr st1.hp.nx r.2.nx) (eY P hd nt ops rest (n+1) (St.put ⟨st1.env,st1.hp.join r.2 (r.2.wr++List.range' st1.hp.nx (r.2.nx-st1.hp.nx))⟩ o.dst r.1) (⟨n,bQ o.op (valOf st1.env.get) st1.hp.get,r.2.wr++List.range' st1.hp.nx (r.2.nx-st1.hp.nx),st1.hp.nx,r.2.nx⟩::tr))).K Q →
     ((dO P hd o.op (valOf st1.env.get) (fQ st1.hp.get st1.hp.nx (bQ o.op (valOf st1.env.get) st1.hp.get))).bind fun r =>
      Out.ask (iA (bQ o.op (valOf st1.env.get) st1.hp.get) r.2.wr st1.hp.nx r.2.nx) (eY P hd nt ops rest (n+1) (St.put ⟨st1.env,st1.hp.join r.2 (r.2.wr++List.range' st1.hp.nx (r.2.nx-st1.hp.nx))⟩ o.dst r.1) (⟨n,bQ o.op (valOf st1.env.get) st1.hp.get,r.2.wr++List.range' st1.hp.nx (r.2.nx-st1.hp.nx),st1.hp.nx,r.2.nx⟩::tr))).K fun r=>Q r∧aS ((o::rest).filterMap (·.dst)) st r.1:=by
    intro st1 hk h
    rw[Out.aU] at h ⊢
    refine Out.bN h fun r hr=>?_
    obtain⟨h1,h2⟩:=Out.bG.1 hr
    refine Out.bG.2 ⟨h1,Out.bN (rT hnt rest _ _ _ Q h2) fun st' h3=>⟨h3.1,hk.trans ?_⟩⟩
    have h4:aS ((o::rest).filterMap (·.dst)) st1 (St.put ⟨st1.env,st1.hp.join r.2 (r.2.wr++List.range' st1.hp.nx (r.2.nx-st1.hp.nx))⟩ o.dst r.1):=nY (l:=rest) hnt hdo ⟨st1.env,_⟩ r.1
    exact h4.trans (nZ h3.2)
   have skip:∀st1:St reg.T,aS ((o::rest).filterMap (·.dst)) st st1→(eY P hd nt ops rest (n+1) (st1.put o.dst .undef) (⟨n,[],[],st1.hp.nx,st1.hp.nx⟩::tr)).K Q→(eY P hd nt ops rest (n+1) (st1.put o.dst .undef) (⟨n,[],[],st1.hp.nx,st1.hp.nx⟩::tr)).K fun r=>Q r∧aS ((o::rest).filterMap (·.dst)) st r.1:=by
    intro st1 hk h
    exact Out.bN (rT hnt rest _ _ _ Q h) fun st' h3=>⟨h3.1,(hk.trans (nY (l:=rest) hnt hdo st1 .undef)).trans (nZ h3.2)⟩
   split at h
   ·exact run st (aS.refl _ _) h
   ·rename_i j want hg
    split at h
    ·exact h.elim
    ·rename_i d hd'
     split at h
     ·rename_i b hb
      cases b with
      | true =>
       have hf:=St.eQ hb
       simp only[Out.K,branch] at h ⊢
       rw[hf] at h ⊢
       cases want with
       | true=>exact run st (aS.refl _ _) h
       | false=>exact skip st (aS.refl _ _) h
      | false =>
       have hf:=St.eQ hb
       simp only[Out.K,branch] at h ⊢
       rw[hf] at h ⊢
       cases want with
       | true=>exact skip st (aS.refl _ _) h
       | false=>exact run st (aS.refl _ _) h
     ·exact skip st (aS.refl _ _) h
     ·exact h.elim
theorem qFT(hnt:nt≤1000000){ops:Array Oper}{draw:Bool}{st:St reg.T}{Q:St reg.T→Prop}(h:(lC P hd nt ops draw st).K Q):(lC P hd nt ops draw st).K fun st'=>Q st'∧aS (ops.toList.filterMap (·.dst)) st st':=by
 unfold lC at h ⊢
 cases draw with
 | false=>exact vJ hnt _ _ _ h
 | true =>
  simp only at h ⊢
  rw[Out.aU] at h ⊢
  refine Out.bN (rT hnt _ _ _ _ _ h) fun r hr=>?_
  obtain⟨h1,h2⟩:=Out.bG.1 hr.1
  exact Out.bG.2 ⟨h1,h2,hr.2⟩
def iL{α:Type}(n0:Nat)(F0:Nat→Prop)(φ0:Phi)(H0:Nat→Option (O reg.T))(w0:World)(nt:Nat)(D:List Nat)(st:St reg.T)(k:aH×St reg.T→DT α)(x:α)(e:aH)(a:Act)(w:World):Prop :=
 ∃st',(k (e,st')).G x∧aS D st st'∧Grow st.hp st'.hp∧RA n0 F0 φ0 H0 w0 nt st' a w
def qE2{α:Type}(n0:Nat)(F0:Nat→Prop)(φ0:Phi)(H0:Nat→Option (O reg.T))(w0:World)(nt:Nat)(D:List Nat)(st:St reg.T)(k:aH×St reg.T→DT α)(x:α):Exit→Act→World→Prop
 | .normal,a,w=>iL n0 F0 φ0 H0 w0 nt D st k x .normal a w
 | .exit id,a,w=>iL n0 F0 φ0 H0 w0 nt D st k x (.exit id) a w
 | .ret,a,w=>iL n0 F0 φ0 H0 w0 nt D st k x .ret a w
 | _,_,_=>False
theorem iL.from{α:Type}{n0:Nat}{F0:Nat→Prop}{φ0:Phi}{H0:Nat→Option (O reg.T)}{w0:World}{D D':List Nat}{st st1:St reg.T}{k:aH×St reg.T→DT α}{x:α}{e:aH}{a:Act}{w:World}(h:iL n0 F0 φ0 H0 w0 nt D st1 k x e a w)(hs:∀t∈D,t∈D')
  (hk:aS D' st st1) (hg:Grow st.hp st1.hp):iL n0 F0 φ0 H0 w0 nt D' st k x e a w:=by
 obtain⟨st',h1,h2,h3,h4⟩:=h
 exact⟨st',h1,hk.trans (h2.sub hs),hg.trans h3,h4⟩
theorem RA.lt{n0:Nat}{F0:Nat→Prop}{φ0:Phi}{H0:Nat→Option (O reg.T)}{w0:World}{st:St reg.T}{a:Act}{w:World}(h:RA n0 F0 φ0 H0 w0 nt st a w):∀i o,st.hp.get i=some o→i<st.hp.nx:=by
 obtain⟨N,F,φ,hN,hR,_⟩:=h
 intro i o hi
 exact hN i (hR.heap.lt i o hi)
theorem qKa{st st':St reg.T}{l:List Nat}(h:st'.hp.wr=l++st.hp.wr):qHd reg st st' = l:=by
 unfold qHd
 rw[h,ji,Nat.add_sub_cancel]
 simp
theorem qID{st st1 st2:St reg.T}{names:List Nat}(hw:(qHd reg st st2).all (fun i=>Nat.ble st.hp.nx i||fI names i)=true)(hg:Grow st.hp st2.hp):∀i,i<st.hp.nx→fI names i=false→st2.hp.get i=st.hp.get i:=by
 obtain⟨g1,l,g2,g3⟩:=hg
 intro i hi hn
 refine g3 i (fun hm=>?_) (by omega)
 rw[qKa g2] at hw
 simp only[ek,jm] at hw
 rcases hw i hm with h | h
 ·have: st.hp.nx≤i:=bz h;omega
 ·rw[hn] at h;cases h
theorem qD0{n0:Nat}{F0:Nat→Prop}{φ0:Phi}{H0:Nat→Option (O reg.T)}{w0:World}{D:List Nat}{ls:List Ld}{st st2:St reg.T}{s:Sg reg ls}{ρ:Rho}{b:Ob}(hs:qAp D ls=true)(hc:qAb reg n0 D ls st ρ st2=true)
  (hr:nI reg ls st2=some (b,s,ρ)) (hb:okO b=true) (hlt:∀i o,st.hp.get i=some o→i<st.hp.nx) (hK:aS D st st2) (hg:Grow st.hp st2.hp) {a:Act} {w:World} (hR:RA n0 F0 φ0 H0 w0 nt st2 a w):RA n0 F0 φ0 H0 w0 nt (qAo reg D ls st s) a w:=by
 refine qOS hs hc hr hb hlt hK ?_ hR
 unfold qAb at hc
 simp only[bu] at hc
 exact qID (st1:=st) hc.1.1.2 hg
theorem lQ{D:List Nat}{ls:List Ld}(hs:qAp D ls=true){st:St reg.T}{s:Sg reg ls}:aS D st (qAo reg D ls st s):=fun _ ht=>qIA hs ht
theorem qKb{α:Type}{b:Bool}{t u:DT α}{x:α}:(DT.br b t u).G x↔(b=true→t.G x)∧(b=false→u.G x):=dY _ _ _
theorem qFU{n0:Nat}{F0:Nat→Prop}{φ0:Phi}{H0:Nat→Option (O reg.T)}{w0:World}{D:List Nat}{ls:List Ld}{st st1 st2:St reg.T}(hs:qAp D ls=true)(hf:(qBk reg ls st1).K (·= st2))(hK:aS D st st1)(hg:Grow st.hp st1.hp){a:Act}{w:World}(hR:RA n0 F0 φ0 H0 w0 nt st1 a w) :
  aS D st st2∧Grow st.hp st2.hp∧RA n0 F0 φ0 H0 w0 nt st2 a w:=by
 obtain⟨h1,h2,h3⟩:=tK hs
 obtain⟨f1,f2⟩:=qJV (nt:=nt) (fun t ht=>h1 _ (h2 _ ht)) hf
 obtain⟨f3,f4⟩:=f2 hR
 refine⟨hK.trans fun t ht=>f1 t fun hm=>?_,hg.trans f3,f4⟩
 have:= bZ.2 (h2 _ hm)
 rw[this] at ht;cases ht
def qOk{α:Type}(n0:Nat)(F0:Nat→Prop)(φ0:Phi)(H0:Nat→Option (O reg.T))(w0:World)(nt:Nat)(D:List Nat)(st:St reg.T)(k:St reg.T→DT α)(x:α):Exit→Act→World→Prop
 | .normal,a,w=>∃st',(k st').G x∧aS D st st'∧Grow st.hp st'.hp∧RA n0 F0 φ0 H0 w0 nt st' a w
 | _,_,_=>False
def rU(P:Program)(nt:Nat)(ex:ExR reg.T):Prop:=∀id ops draw st (α:Type) (k:St reg.T→DT α) (x:α),(ex ops draw st α k).G x→∀{n0:Nat} {F0:Nat→Prop} {φ0:Phi} {H0:Nat→Option (O reg.T)} {w0:World} {a:Act} {w:World},RA n0 F0 φ0 H0 w0 nt st a w →
 (Code.region id ops draw).wp P (qOk n0 F0 φ0 H0 w0 nt (ops.toList.filterMap (·.dst)) st k x) a w
theorem rV(hm:P.follows .mixedOrders=true)(hHd:bT P hd)(hnt:nt≤1000000){ex:ExR reg.T}(hex:∀ops draw st (α:Type) (k:St reg.T→DT α) (x:α),(ex ops draw st α k).G x→(lC P hd nt ops draw st).K fun st=>(k st).G x):rU P nt ex:=by
 intro id ops draw st α k x h n0 F0 φ0 H0 w0 a w hR
 obtain⟨N,F,φ,hN,hR,hG⟩:=hR
 have h:=qFT hnt (hex _ _ _ _ _ _ h)
 exact qEn hm hHd hnt h hR (fun st' _=>qI8 hN _) (fun st' N' F' φ' a' w' hq hR' hG'=>⟨st',hq.1,hq.2,hG'.grow,RA.go hN hG hR' hG'⟩)
theorem jI{ex:ExR reg.T}(hreg:rU P nt ex){fuel:Nat}{L J:Nat→St reg.T→Option (List Ld)}{n0:Nat}{F0:Nat→Prop}{φ0:Phi}{H0:Nat→Option (O reg.T)}{w0:World}:∀(c:Code) {α:Type} (k:aH×St reg.T→DT α) (st:St reg.T) (x:α),(gD reg ex fuel n0 L J c k st).G x →
  ∀{a:Act} {w:World},RA n0 F0 φ0 H0 w0 nt st a w→c.wp P (qE2 n0 F0 φ0 H0 w0 nt (defs c) st k x) a w:=by
 intro c
 induction c with
 | skip=>intro α k st x h a w hR;exact wp_skip ⟨st,h,aS.refl _ _,Grow.refl _,hR⟩
 | region id ops draw =>
  intro α k st x h a w hR
  refine wp_mono (hreg id ops draw st _ _ x h hR) fun e a' w' he=>?_
  cases e with
  | normal =>
   obtain⟨st',h1,h2,h3,h4⟩:=he
   exact⟨st',h1,h2,h3,h4⟩
  | exit id=>exact he.elim
  | ret=>exact he.elim
  | goto l=>exact he.elim
  | panic c=>exact he.elim
  | outgrown=>exact he.elim
 | seq c1 c2 ih1 ih2 =>
  intro α k st x h a w hR
  simp only[gD] at h
  have s1:∀t∈defs c1,t∈defs (.seq c1 c2):=fun t ht=>by simp[defs,ht]
  have s2:∀t∈defs c2,t∈defs (.seq c1 c2):=fun t ht=>by simp[defs,ht]
  split at h
  ·refine wp_seq (wp_mono (ih1 _ st x h hR) fun e a' w' he=>?_)
   cases e with
   | normal =>
    obtain⟨st',h1,h2,h3,h4⟩:=he
    refine wp_mono (ih2 k st' x h1 h4) fun e a' w' he=>?_
    cases e with
    | normal=>exact iL.from he s2 (h2.sub s1) h3
    | exit id=>exact iL.from he s2 (h2.sub s1) h3
    | ret=>exact iL.from he s2 (h2.sub s1) h3
    | goto l=>exact he
    | panic c=>exact he
    | outgrown=>exact he
   | exit id=>exact iL.from he s1 (aS.refl _ _) (Grow.refl _)
   | ret=>exact iL.from he s1 (aS.refl _ _) (Grow.refl _)
   | goto l=>exact he
   | panic c=>exact he
   | outgrown=>exact he
  ·rename_i ls _
   split at h
   ·rename_i hs
    obtain⟨y,h1,h2⟩:=DT.iM.1 h
    refine wp_seq (wp_mono (ih1 _ st y h1 hR) fun e a' w' he=>?_)
    have out:∀e,(e=.ret∨∃id,e=.exit id)→iL n0 F0 φ0 H0 w0 nt (defs c1) st (qAf reg n0 (defs c1) ls st k) y e a' w'→iL n0 F0 φ0 H0 w0 nt (defs (.seq c1 c2)) st k x e a' w':=by
     rintro e hee ⟨st',h3,h4,h5,h6⟩
     have h7:((k (e,st')).map (Sum.inr:α→Sg reg ls ⊕ α)).G y:=by
      rcases hee with rfl | ⟨id,rfl⟩<;>exact h3
     obtain⟨x',h8,h9⟩:=DT.qHa _ _ (fun _ _ h=>Sum.inr.inj h) _ h7
     subst h9
     have h2:x' = x:=h2
     subst h2
     exact⟨st',h8,h4.sub s1,h5,h6⟩
    cases e with
    | normal =>
     obtain⟨st',h3,h4,h5,h6⟩:=he
     simp only[qAf] at h3
     obtain⟨st2,hf,h3⟩:=(Out.bP _ _).1 (DT.dH h3)
     obtain⟨h4,h5,h6⟩:=qFU hs hf h4 h5 h6
     split at h3
     ·rename_i b s ρ hr
      split at h3
      ·rename_i hc
       obtain⟨hb,h3⟩:=kN h3
       have h3:(Sum.inl s:Sg reg ls ⊕ α)=y:=h3
       subst h3
       have h2:(stS (qAo reg (defs c1) ls st s) fun st=>gD reg ex fuel n0 L J c2 k st).G x:=h2
       rw[qBf] at h2
       have hRA:=qD0 hs hc hr hb hR.lt h4 h5 h6
       refine wp_mono (ih2 k _ x h2 hRA) fun e a' w' he=>?_
       cases e with
       | normal=>exact iL.from he s2 ((lQ hs).sub s1) (nW hs)
       | exit id=>exact iL.from he s2 ((lQ hs).sub s1) (nW hs)
       | ret=>exact iL.from he s2 ((lQ hs).sub s1) (nW hs)
       | goto l=>exact he
       | panic c=>exact he
       | outgrown=>exact he
      ·exact h3.elim
     ·exact h3.elim
    | exit id=>exact out _ (.inr ⟨id,rfl⟩) he
    | ret=>exact out _ (.inl rfl) he
    | goto l=>exact he
    | panic c=>exact he
    | outgrown=>exact he
   ·exact h.elim
 | cond o c1 c2 ih1 ih2 =>
  intro α k st x h a w hR
  simp only[gD] at h
  have s1:∀t∈defs c1,t∈defs (.cond o c1 c2):=fun t ht=>by simp[defs,ht]
  have s2:∀t∈defs c2,t∈defs (.cond o c1 c2):=fun t ht=>by simp[defs,ht]
  have up:∀{D:List Nat} {e:Exit} {a:Act} {w:World},(∀t∈D,t∈defs (.cond o c1 c2))→qE2 n0 F0 φ0 H0 w0 nt D st k x e a w→qE2 n0 F0 φ0 H0 w0 nt (defs (.cond o c1 c2)) st k x e a w:=by
   intro D e a w hs he
   cases e with
   | normal=>exact iL.from he hs (aS.refl _ _) (Grow.refl _)
   | exit id=>exact iL.from he hs (aS.refl _ _) (Grow.refl _)
   | ret=>exact iL.from he hs (aS.refl _ _) (Grow.refl _)
   | goto l=>exact he
   | panic c=>exact he
   | outgrown=>exact he
  split at h
  ·rename_i t
   split at h
   ·rename_i v hv
    have hR':=hR
    obtain⟨N,F,φ,hN,hR',hG⟩:=hR'
    have he:a.eval (.tmp t)=.bool v:=(kR hR' (x:=.tmp t) hv).fB
    cases v with
    | true =>
     have h:=(qKb.1 h).1 rfl
     rw[St.eQ hv] at h
     exact wp_cond_true he (wp_mono (ih1 k st x h hR) fun e a' w' he=>up s1 he)
    | false =>
     have h:=(qKb.1 h).2 rfl
     rw[St.eQ hv] at h
     exact wp_cond_false he (wp_mono (ih2 k st x h hR) fun e a' w' he=>up s2 he)
   ·exact h.elim
  ·split at h
   ·split at h
    ·exact wp_cond_true rfl (wp_mono (ih1 k st x h hR) fun e a' w' he=>up s1 he)
    ·exact wp_cond_false rfl (wp_mono (ih2 k st x h hR) fun e a' w' he=>up s2 he)
   ·exact h.elim
  ·exact h.elim
 | block id c ih =>
  intro α k st x h a w hR
  refine wp_block (wp_mono (ih _ st x h hR) fun e a' w' he=>?_)
  cases e with
  | normal=>exact he
  | exit j =>
   obtain⟨st',h1,h2⟩:=he
   simp only[qDy] at h1
   cases hb:Nat.beq j id with
   | true =>
    rw[hb] at h1
    have: j=id:=cz hb
    simp only[Exit.inBlock,this,if_true]
    exact⟨st',h1,h2⟩
   | false =>
    rw[hb] at h1
    have: j≠id:=fun e=>by subst e;simp[jq] at hb
    simp only[Exit.inBlock,this,if_false]
    exact⟨st',h1,h2⟩
  | ret=>exact he
  | goto l=>exact he
  | panic c=>exact he
  | outgrown=>exact he
 | exit id=>intro α k st x h a w hR;exact wp_exit ⟨st,h,aS.refl _ _,Grow.refl _,hR⟩
 | ret=>intro α k st x h a w hR;exact wp_ret ⟨st,h,aS.refl _ _,Grow.refl _,hR⟩
 | loop c ih =>
  intro α k st x h a w hR
  simp only[gD] at h
  split at h
  ·refine wp_loop_ghost (fun n a w=>∃st1,(qE1 (fun k st=>gD reg ex fuel n0 L J c k st) n k st1).G x∧aS (defs c) st st1∧Grow st.hp st1.hp∧RA n0 F0 φ0 H0 w0 nt st1 a w) fuel ⟨st,h,aS.refl _ _,Grow.refl _,hR⟩ ?_
   rintro n a w ⟨st1,h1,h2,h3,h4⟩
   cases n with
   | zero=>exact h1.elim
   | succ n =>
    simp only[qE1] at h1
    refine wp_mono (ih _ st1 x h1 h4) fun e a' w' he=>?_
    cases e with
    | normal =>
     obtain⟨st',g1,g2,g3,g4⟩:=he
     exact⟨n,l8 n,st',g1,h2.trans g2,h3.trans g3,g4⟩
    | exit id=>exact iL.from he (fun _ h=>h) h2 h3
    | ret=>exact iL.from he (fun _ h=>h) h2 h3
    | goto l=>exact he
    | panic c=>exact he
    | outgrown=>exact he
  ·rename_i ls _
   split at h
   ·rename_i hs
    obtain⟨stf,hf,h⟩:=(Out.bP _ _).1 (DT.dH h)
    rw[qBf] at h
    obtain⟨kf,gf,hR⟩:=qFU hs hf (aS.refl (defs c) st) (Grow.refl _) hR
    refine wp_mono (?_:(Code.loop c).wp P (qE2 n0 F0 φ0 H0 w0 nt (defs (.loop c)) stf k x) a w) fun e a' w' he=>(by
     cases e with
     | normal=>exact iL.from he (fun _ h=>h) kf gf
     | exit id=>exact iL.from he (fun _ h=>h) kf gf
     | ret=>exact iL.from he (fun _ h=>h) kf gf
     | goto l=>exact he
     | panic c=>exact he
     | outgrown=>exact he)
    clear kf gf hf
    generalize stf=st at h hR ⊢
    split at h
    ·rename_i b s0 ρ hr
     split at h
     ·rename_i hc
      obtain⟨hb,h⟩:=kN h
      obtain⟨n,hn⟩:=DT.lK.1 h
      have h0:=qD0 hs hc hr hb hR.lt (aS.refl _ _) (Grow.refl _) hR
      refine wp_loop_ghost (fun n a w=>∃s,DT.rM (fun s y=>(stS (qAo reg (defs c) ls st s) fun st1=>gD reg ex fuel n0 L J c (qAf reg n0 (defs c) ls st k) st1).G y) n s x∧RA n0 F0 φ0 H0 w0 nt (qAo reg (defs c) ls st s) a w) n ⟨s0,hn,h0⟩ ?_
      rintro n a w ⟨s,h1,h2⟩
      cases n with
      | zero=>exact h1.elim
      | succ n =>
       obtain⟨y,h3,h4⟩:=h1
       simp only[qBf] at h3
       refine wp_mono (ih _ _ y h3 h2) fun e a' w' he=>?_
       have out:∀e,(e=.ret∨∃id,e=.exit id)→iL n0 F0 φ0 H0 w0 nt (defs c) (qAo reg (defs c) ls st s) (qAf reg n0 (defs c) ls st k) y e a' w'→iL n0 F0 φ0 H0 w0 nt (defs c) st k x e a' w':=by
        rintro e hee ⟨st',g3,g4,g5,g6⟩
        have h7:((k (e,st')).map (Sum.inr:α→Sg reg ls ⊕ α)).G y:=by
         rcases hee with rfl | ⟨id,rfl⟩<;>exact g3
        obtain⟨x',h8,h9⟩:=DT.qHa _ _ (fun _ _ h=>Sum.inr.inj h) _ h7
        subst h9
        have h4:x' = x:=h4
        subst h4
        exact⟨st',h8,(lQ hs).trans g4,(nW hs).trans g5,g6⟩
       cases e with
       | normal =>
        obtain⟨st',g3,g4,g5,g6⟩:=he
        simp only[qAf] at g3
        obtain⟨st2,hf,g3⟩:=(Out.bP _ _).1 (DT.dH g3)
        obtain⟨g4,g5,g6⟩:=qFU hs hf g4 g5 g6
        split at g3
        ·rename_i b' s' ρ' hr'
         split at g3
         ·rename_i hc'
          obtain⟨hb',g3⟩:=kN g3
          have g3:(Sum.inl s':Sg reg ls ⊕ α)=y:=g3
          subst g3
          exact⟨n,l8 n,s',h4,qD0 hs hc' hr' hb' hR.lt ((lQ hs).trans g4) ((nW hs).trans g5) g6⟩
         ·exact g3.elim
        ·exact g3.elim
       | exit id=>exact out _ (.inr ⟨id,rfl⟩) he
       | ret=>exact out _ (.inl rfl) he
       | goto l=>exact he
       | panic c=>exact he
       | outgrown=>exact he
     ·exact h.elim
    ·exact h.elim
   ·exact h.elim
 | rangeFunc f ps c1 c2 _ _=>intro α k st x h;exact h.elim
 | scope c ih =>
  intro α k st x h a w hR
  refine wp_scope_straight (wp_mono (ih k st x h hR) fun e a' w' he=>?_)
  cases e with
  | goto l=>exact he.elim
  | _=>exact he
 | label l=>intro α k st x h a w hR;exact wp_label ⟨st,h,aS.refl _ _,Grow.refl _,hR⟩
 | goto l=>intro α k st x h;exact h.elim
 | refuse s=>intro α k st x h;exact h.elim
theorem qIE(hm:P.follows .mixedOrders=true)(hHd:bT P hd)(hnt:nt≤1000000){fuel:Nat}{L J:Nat→St reg.T→Option (List Ld)}{n0:Nat}{F0:Nat→Prop}{φ0:Phi}{H0:Nat→Option (O reg.T)}{w0:World}(c:Code){α:Type}(k:aH×St reg.T→DT α)(st:St reg.T)(x:α)(h:(awd reg P hd nt fuel n0 L J c k st).G x)
  {a:Act} {w:World} (hR:RA n0 F0 φ0 H0 w0 nt st a w):c.wp P (qE2 n0 F0 φ0 H0 w0 nt (defs c) st k x) a w :=
 jI (rV hm hHd hnt (fun _ _ _ _ _ _ h=>qE0 (DT.dH h))) c k st x h hR
end
end Go.W
