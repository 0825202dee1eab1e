/- Part of the proof. No conditions. -/
import Derived.Test.YtehpnjmgjmkjaaaGreatDoorVe
namespace Go.W
open Go Go.RowKit
inductive DT:Type→Type 1
 | ret {α:Type} (a:α):DT α
 | need {α:Type} (b:Bool) (t:DT α):DT α
 | br {α:Type} (b:Bool) (x y:DT α):DT α
 | both {α:Type} (x y:DT α):DT α
 | bad {α:Type}:DT α
 | loop {α σ:Type} (s:σ) (body:σ→DT (σ ⊕ α)):DT α
 | join {α σ:Type} (t:DT (σ ⊕ α)) (k:σ→DT α):DT α
namespace DT
def map:{α:Type}→DT α→{β:Type}→(α→β)→DT β
 | _,.ret a,_,f=>.ret (f a)
 | _,.need b t,_,f=>.need b (t.map f)
 | _,.br b x y,_,f=>.br b (x.map f) (y.map f)
 | _,.both x y,_,f=>.both (x.map f) (y.map f)
 | _,.bad,_,_=>.bad
 | _,.loop s body,_,f=>.loop s fun s=>(body s).map (Sum.map id f)
 | _,.join t k,_,f=>.join (t.map (Sum.map id f)) fun s=>(k s).map f
 termination_by structural _ t=>t
def zJe{σ α:Type}(P:σ→Prop)(x:α):σ ⊕ α→Prop
 | .inl s=>P s
 | .inr a=>a=x
def qAw{σ α:Type}(B:σ→σ ⊕ α→Prop):Nat→σ→α→Prop
 | 0,_,_=>False
 | n+1,s,x=>∃y,B s y∧zJe (fun s'=>qAw B n s' x) x y
def G:{α:Type}→DT α→α→Prop
 | _,.ret a,x=>a=x
 | _,.need b t,x=>must b (t.G x)
 | _,.br b t u,x=>branch b (t.G x) (u.G x)
 | _,.both t u,x=>t.G x∧u.G x
 | _,.bad,_=>False
 | _,.loop s body,x=>∃n,qAw (fun s y=>(body s).G y) n s x
 | _,.join t k,x=>∃y,t.G y∧zJe (fun s=>(k s).G x) x y
 termination_by structural _ t=>t
theorem lK{α σ:Type}{t:DT (σ ⊕ α)}{k:σ→DT α}{x:α}:(DT.join t k).G x↔∃y,t.G y∧zJe (fun s=>(k s).G x) x y:=Iff.rfl
theorem qN{α σ:Type}{s:σ}{body:σ→DT (σ ⊕ α)}{x:α}:(DT.loop s body).G x↔∃n,qAw (fun s y=>(body s).G y) n s x:=Iff.rfl
theorem qXs{σ α β:Type}{f:α→β}(hf:∀a b,f a=f b→a=b):∀a b:σ ⊕ α,Sum.map id f a=Sum.map id f b→a=b:=by
 intro a b h
 cases a<;>cases b<;>simp only[Sum.map_inl,Sum.map_inr,id,Sum.inl.injEq,Sum.inr.injEq,reduceCtorEq] at h
 ·rw[h]
 ·rw[hf _ _ h]
theorem qMO:∀{α:Type} (t:DT α) {β:Type} (f:α→β) (_hf:∀a b,f a=f b→a=b) (y:β),(t.map f).G y→∃x,t.G x∧f x=y:=by
 intro α t
 induction t with
 | ret a=>intro β f hf y h;exact⟨a,rfl,h⟩
 | need b t ih =>
  intro β f hf y h
  obtain⟨h0,h⟩:=(bE _ _).1 h
  obtain⟨x,h1,h2⟩:=ih f hf y h
  exact⟨x,(bE _ _).2 ⟨h0,h1⟩,h2⟩
 | br b t u iht ihu =>
  intro β f hf y h
  cases b with
  | true=>obtain⟨x,h1,h2⟩:=iht f hf y h;exact⟨x,h1,h2⟩
  | false=>obtain⟨x,h1,h2⟩:=ihu f hf y h;exact⟨x,h1,h2⟩
 | both t u iht ihu =>
  intro β f hf y h
  obtain⟨x,h1,h2⟩:=iht f hf y h.1
  obtain⟨x',h3,h4⟩:=ihu f hf y h.2
  have:= hf _ _ (h2.trans h4.symm)
  subst this
  exact⟨x,⟨h1,h3⟩,h2⟩
 | bad=>intro β f hf y h;exact h.elim
 | loop s body ih =>
  intro β f hf y h
  obtain⟨n,h⟩:=h
  have key:∀(n:Nat) s,qAw (fun s y=>((body s).map (Sum.map id f)).G y) n s y→∃x,qAw (fun s y=>(body s).G y) n s x∧f x=y:=by
   intro n
   induction n with
   | zero=>intro s h;exact h.elim
   | succ n ihn =>
    intro s ⟨z,h1,h2⟩
    obtain⟨z',h3,h4⟩:=ih s _ (qXs hf) z h1
    cases z' with
    | inl s' =>
     cases h4
     obtain⟨x,h5,h6⟩:=ihn s' h2
     exact⟨x,⟨.inl s',h3,h5⟩,h6⟩
    | inr a =>
     cases h4
     exact⟨a,⟨.inr a,h3,rfl⟩,h2⟩
  obtain⟨x,h1,h2⟩:=key n s h
  exact⟨x,qN.2 ⟨n,h1⟩,h2⟩
 | join t k iht ihk =>
  intro β f hf y h
  obtain⟨z,h1,h2⟩:=h
  obtain⟨z',h3,h4⟩:=iht _ (qXs hf) z h1
  cases z' with
  | inl s =>
   cases h4
   obtain⟨x,h5,h6⟩:=ihk s f hf y h2
   exact⟨x,lK.2 ⟨.inl s,h3,h5⟩,h6⟩
  | inr a =>
   cases h4
   exact⟨a,lK.2 ⟨.inr a,h3,rfl⟩,h2⟩
def gB{α β:Type}:Out α→(α→DT β)→DT β
 | .ret a,k=>k a
 | .need b o,k=>.need b (gB o k)
 | .br b x y,k=>.br b (gB x k) (gB y k)
 | .bad,_=>.bad
theorem kD{α β:Type}{o:Out α}{k:α→DT β}{x:β}:(gB o k).G x→o.K fun a=>(k a).G x:=by
 induction o with
 | ret a=>exact id
 | need b o ih=>intro h;obtain⟨h0,h⟩:=(bE _ _).1 h;exact(bE _ _).2 ⟨h0,ih h⟩
 | br b u v ihu ihv =>
  intro h
  cases b with
  | true=>exact ihu h
  | false=>exact ihv h
 | bad=>exact id
end DT
section
universe u
variable {T:Nat→Type} {β:Sort u}
def qJq(n:Nat)(k:Nat→β):β:=match n with
 | 0=>k 0
 | m+1=>k (m+1)
theorem mM(n:Nat)(k:Nat→β):qJq n k=k n:=by cases n<;>rfl
def dS(x:D T)(k:D T→β):β:=match x with
 | .bool b=>k (.bool b)
 | .int i n=>k (.int i n)
 | .str s=>k (.str s)
 | .nilp=>k .nilp
 | .nilm=>k .nilm
 | .nilf=>k .nilf
 | .nili=>k .nili
 | .nils=>k .nils
 | .sl e xs=>k (.sl e xs)
 | .usl i xs=>k (.usl i xs)
theorem zLh(x:D T)(k:D T→β):dS x k=k x:=by cases x<;>rfl
def zLi(c:Cap)(k:Cap→β):β:=match c with
 | .exact n=>k (.exact n)
 | .least n=>k (.least n)
theorem zG1(x:Cap)(k:Cap→β):zLi x k=k x:=by cases x<;>rfl
def vS{β:Sort u}:V T→(V T→β)→β
 | .d x,k=>dS x fun x=>k (.d x)
 | .ptr i r o,k=>qJq i fun i=>k (.ptr i r o)
 | .fp row o,k=>k (.fp row o)
 | .sl i off len cap,k=>qJq i fun i=>zLi cap fun cap=>k (.sl i off len cap)
 | .mp i,k=>qJq i fun i=>k (.mp i)
 | .it i,k=>qJq i fun i=>k (.it i)
 | .fn f vs us,k=>goL vs fun vs=>goL us fun us=>k (.fn f vs us)
 | .ifc t v,k=>vS v fun v=>k (.ifc t v)
 | .agg vs,k=>goL vs fun vs=>k (.agg vs)
 | .tup vs,k=>goL vs fun vs=>k (.tup vs)
 | .undef,k=>k .undef
 | .any,k=>k .any
where goL {β:Sort u}:List (V T)→(List (V T)→β)→β
 | [],k=>k []
 | v::vs,k=>vS v fun v=>goL vs fun vs=>k (v::vs)
theorem qHs:∀(v:V T) (k:V T→β),vS v k=k v:=by
 have key:∀(n:Nat) (v:V T),SizeOf.sizeOf v<n→∀{β:Sort u} (k:V T→β),vS v k=k v:=by
  intro n
  induction n with
  | zero=>intro v h;omega
  | succ n ih =>
   have goL:∀vs:List (V T),SizeOf.sizeOf vs<n+1→∀{β:Sort u} (k:List (V T)→β),vS.goL vs k=k vs:=by
    intro vs
    induction vs with
    | nil=>intro _ β k;rfl
    | cons v vs ihv =>
     intro hs β k
     simp only[List.cons.sizeOf_spec] at hs
     simp only[vS.goL]
     rw[ih v (by omega),ihv (by omega)]
   intro v hv β k
   cases v<;>simp only[vS]
   case d x=>rw[zLh]
   case ptr i r o=>rw[mM]
   case sl i off len cap=>rw[mM,zG1]
   case mp i=>rw[mM]
   case it i=>rw[mM]
   case fn f vs us=>simp only[V.fn.sizeOf_spec] at hv;rw[goL vs (by omega),goL us (by omega)]
   case ifc t v=>simp only[V.ifc.sizeOf_spec] at hv;rw[ih v (by omega)]
   case agg vs=>simp only[V.agg.sizeOf_spec] at hv;rw[goL vs (by omega)]
   case tup vs=>simp only[V.tup.sizeOf_spec] at hv;rw[goL vs (by omega)]
 intro v k
 exact key (SizeOf.sizeOf v+1) v (by omega) k
theorem qXt:∀(vs:List (V T)) (k:List (V T)→β),vS.goL vs k=k vs
 | [],k=>rfl
 | v::vs,k=>by simp only[vS.goL];rw[qHs,qXt vs]
def qXu{β:Sort u}:List (List (V T))→(List (List (V T))→β)→β
 | [],k=>k []
 | r::rs,k=>vS.goL r fun r=>qXu rs fun rs=>k (r::rs)
theorem qR1:∀(rs:List (List (V T))) (k:List (List (V T))→β),qXu rs k=k rs
 | [],k=>rfl
 | r::rs,k=>by simp only[qXu];rw[qXt,qR1 rs]
def oS:O T→(O T→β)→β
 | .rows n xs,k=>qXu xs fun xs=>k (.rows n xs)
 | .trows e xs,k=>k (.trows e xs)
 | .map c es,k=>k (.map c es)
 | .sit s p,k=>k (.sit s p)
 | .mit m a b c,k=>k (.mit m a b c)
theorem qMP(o:O T)(k:O T→β):oS o k=k o:=by cases o<;>simp only[oS];rw[qR1]
def zJf{α:Type}(f:α→(α→β)→β):Option α→(Option α→β)→β
 | none,k=>k none
 | some x,k=>f x fun x=>k (some x)
def trS{α:Type}(f:α→(α→β)→β):Tr α→(Tr α→β)→β
 | .e,k=>k .e
 | .n l v r,k=>trS f l fun l=>zJf f v fun v=>trS f r fun r=>k (.n l v r)
theorem zG2{α:Type}{f:α→(α→β)→β}(hf:∀x k,f x k=k x)(x:Option α)(k:Option α→β):zJf f x k=k x:=by cases x<;>simp only[zJf];rw[hf]
theorem pI{α:Type}{f:α→(α→β)→β}(hf:∀x k,f x k=k x):∀(t:Tr α) (k:Tr α→β),trS f t k=k t
 | .e,k=>rfl
 | .n l v r,k=>by simp only[trS];rw[pI hf l,zG2 hf,pI hf r]
def lnS{β:Sort u}:List Nat→(List Nat→β)→β
 | [],k=>k []
 | n::l,k=>qJq n fun n=>lnS l fun l=>k (n::l)
theorem qDV:∀(l:List Nat) (k:List Nat→β),lnS l k=k l
 | [],k=>rfl
 | n::l,k=>by simp only[lnS];rw[mM,qDV l]
def stS(st:St T)(k:St T→β):β:=trS vS st.env fun env=>trS oS st.hp.h fun h=>qJq st.hp.nx fun n=>lnS st.hp.wr fun wr=>k ⟨env,⟨h,n,wr⟩⟩
theorem qJr(st:St T)(k:St T→β):stS st k=k st:=by
 unfold stS
 rw[pI qHs,pI qMP,mM,qDV]
end
inductive CD where
 | str (s:List UInt8)
 | nils
inductive Kd where
 | cst (c:CD)
 | int (k:IntKind)
 | bool
 | str
 | dat (e:Nat)
 | own (m e:Nat) (cut:Bool)
 | rcd (e:Nat)
inductive Ld where
 | slot (t:Nat) (k:Kd)
 | obj (i:Nat) (ks:List Kd)
 | rows (i e:Nat)
def isRec:Kd→Bool
 | .rcd _=>true
 | _=>false
def Kd.names:Kd→List Nat
 | .own m _ _=>[m]
 | _=>[]
def Ld.names:Ld→List Nat
 | .slot _ k=>k.names
 | .obj i ks=>i::ks.flatMap Kd.names
 | .rows i _=>[i]
def Ld.slots:Ld→List Nat
 | .slot t _=>[t]
 | .obj _ _=>[]
 | .rows _ _=>[]
abbrev Rho:=List (Nat×Option Nat)
abbrev Ob:=Option Bool
def okO:Ob→Bool
 | none=>true
 | some b=>b
def qZE:Ob→Ob→Ob
 | none,b=>b
 | some a,none=>some a
 | some a,some b=>some (a&&b)
theorem qPs{a b:Ob}(h:okO (qZE a b)=true):okO a=true∧okO b=true:=by
 cases a<;>cases b<;>simp_all [qZE,okO]
def qJs{α:Type}(b:Ob)(t:DT α):DT α:=match b with
 | none=>t
 | some b=>.need b t
theorem qAx{α:Type}{b:Ob}{t:DT α}{x:α}(h:(qJs b t).G x):okO b=true∧t.G x:=by
 cases b with
 | none=>exact⟨rfl,h⟩
 | some b=>exact(bE _ _).1 h
section
variable (reg:Reg)
def CD.enc{T:Nat→Type}:CD→D T
 | .str s=>.str s
 | .nils=>.nils
def CD.is{T:Nat→Type}:CD→D T→Bool
 | .str s,.str t=>s==t
 | .nils,.nils=>true
 | _,_=>false
def Kd.T:Kd→Type
 | .cst _=>Unit
 | .int _=>Int
 | .bool=>Bool
 | .str=>List UInt8
 | .dat e=>List (reg.T e)
 | .own _ e _=>List (reg.T e)
 | .rcd e=>reg.T e
def Kd.enc:(k:Kd)→k.T reg→List (V reg.T)
 | .cst c,_=>[.d c.enc]
 | .int k,x=>[.d (.int k x)]
 | .bool,x=>[.d (.bool x)]
 | .str,x=>[.d (.str x)]
 | .dat e,x=>[.d (.sl e x)]
 | .own m _ _,x=>[.sl m 0 (List.length x) (.least 0)]
 | .rcd e,x=>(reg.enc e x).map .d
def kS(k:Kd)(o:Option Nat)(l:Rho):Rho:=match k with
 | .own m _ _=>(m,o)::l
 | _=>l
def Kd.read(k:Kd)(cs:List (V reg.T))(g:Nat→Option (O reg.T)):Option (Ob×k.T reg×Option Nat):=match k with
 | .cst c=>(match cs with
  | [.d x]=>(match c.is x with | true=>some (none,(),none) | false=>none)
  | _=>none)
 | .int k=>(match cs with
  | [.d (.int k' n)]=>(match sameKind k k' with | true=>some (none,n,none) | false=>none)
  | _=>none)
 | .bool=>(match cs with
  | [.d (.bool b)]=>some (none,b,none)
  | _=>none)
 | .str=>(match cs with
  | [.d (.str s)]=>some (none,s,none)
  | _=>none)
 | .dat e=>(match cs with
  | [.d (.sl _e' xs)]=>(match qBk xs e with | some ys=>some (none,ys,none) | none=>none)
  | [.d .nils]=>some (none,[],none)
  | _=>none)
 | .own _ e cut=>(match cs with
  | [.d .nils]=>some (none,[],none)
  | [.sl j 0 len _]=>(match g j with
   | some (.trows _e' xs)=>(match qBk xs e with
    | some ys=>(match cut with
     | true=>some (some (Nat.ble len ys.length),ys.take len,some j)
     | false=>some (some (Nat.beq len ys.length),ys,some j))
    | none=>none)
   | _=>none)
  | _=>none)
 | .rcd e=>(match gY cs with | some l=>(match reg.dec e l with | some x=>some (none,x,none) | none=>none) | none=>none)
def Cs:List Kd→Type
 | []=>Unit
 | k::ks=>k.T reg×Cs ks
def Ld.T:Ld→Type
 | .slot _ k=>k.T reg
 | .obj _ ks=>Cs reg ks
 | .rows _ e=>List (reg.T e)
def Sg:List Ld→Type
 | []=>Unit
 | l::ls=>l.T reg×Sg ls
def Cs.enc:(ks:List Kd)→Cs reg ks→List (V reg.T)
 | [],_=>[]
 | k::ks,x=>k.enc reg x.1++Cs.enc ks x.2
def Kd.bY(k:Kd)(x:k.T reg):List (Nat×O reg.T):=match k,x with
 | .own m e _,x=>[(m,.trows e x)]
 | _,_=>[]
def Cs.bY:(ks:List Kd)→Cs reg ks→List (Nat×O reg.T)
 | [],_=>[]
 | k::ks,x=>k.bY reg x.1++Cs.bY ks x.2
def qJt(k:Kd)(x:k.T reg):V reg.T:=match isRec k with
 | true=>.agg (k.enc reg x)
 | false=>(k.enc reg x).headD .any
def Ld.vals:(l:Ld)→l.T reg→List (Nat×V reg.T)
 | .slot t k,x=>[(t,qJt reg k x)]
 | .obj _ _,_=>[]
 | .rows _ _,_=>[]
def Ld.bY:(l:Ld)→l.T reg→List (Nat×O reg.T)
 | .slot _ k,x=>k.bY reg x
 | .obj i ks,x=>(i,.rows (Cs.enc reg ks x).length [Cs.enc reg ks x])::Cs.bY reg ks x
 | .rows i e,x=>[(i,.trows e x)]
def Sg.vals:(ls:List Ld)→Sg reg ls→List (Nat×V reg.T)
 | [],_=>[]
 | l::ls,x=>l.vals reg x.1++Sg.vals ls x.2
def Sg.bY:(ls:List Ld)→Sg reg ls→List (Nat×O reg.T)
 | [],_=>[]
 | l::ls,x=>l.bY reg x.1++Sg.bY ls x.2
def Kd.w:Kd→Nat
 | .rcd e=>reg.k e
 | _=>1
def xY:(ks:List Kd)→List (V reg.T)→(Nat→Option (O reg.T))→Option (Ob×Cs reg ks×Rho)
 | [],cs,_=>(match cs with | []=>some (none,(),[]) | _=>none)
 | k::ks,cs,g=>(match Nat.ble (k.w reg) cs.length,k.read reg (cs.take (k.w reg)) g,xY ks (cs.drop (k.w reg)) g with
  | true,some (b,x,o),some (b',y,l)=>some (qZE b b',(x,y),kS k o l)
  | _,_,_=>none)
def vI(k:Kd)(v:V reg.T)(g:Nat→Option (O reg.T)):Option (Ob×k.T reg×Option Nat):=match isRec k with
 | true=>(match v with | .agg cs=>k.read reg cs g | _=>none)
 | false=>k.read reg [v] g
def Ld.read:(l:Ld)→St reg.T→Option (Ob×l.T reg×Rho)
 | .slot t k,st=>(match st.env.get t with
  | some v=>(match vI reg k v st.hp.get with
   | some (b,x,o)=>some (b,x,kS k o [])
   | none=>none)
  | none=>none)
 | .obj i ks,st=>(match st.hp.get i with
  | some (.rows _ [cs])=>(match xY reg ks cs st.hp.get with
   | some (b,x,l)=>some (b,x,(i,some i)::l)
   | none=>none)
  | _=>none)
 | .rows i e,st=>(match st.hp.get i with
  | some (.trows _e' xs)=>(match qBk xs e with
   | some ys=>some (none,ys,[(i,some i)])
   | none=>none)
  | _=>none)
def xZ:(ls:List Ld)→St reg.T→Option (Ob×Sg reg ls×Rho)
 | [],_=>some (none,(),[])
 | l::ls,st=>(match l.read reg st,xZ ls st with
  | some (b,x,r),some (b',y,r')=>some (qZE b b',(x,y),r++r')
  | _,_=>none)
def lL{α:Type}:List Nat→Tr α→Tr α
 | [],t=>t
 | i::l,t=>(lL l t).set i none
def Tr.allT{α:Type}(f:α→Bool):Tr α→Bool
 | .e=>true
 | .n l v r=>(match l.allT f with
  | true=>(match v with | some x=>(match f x with | true=>r.allT f | false=>false) | none=>r.allT f)
  | false=>false)
def qF(ρ:Rho)(nx i:Nat):Option Nat:=match dH ρ i with
 | some o=>o
 | none=>(match Nat.blt i nx with | true=>some i | false=>none)
def vJ(ρ:Rho)(nx i:Nat):Bool:=match qF ρ nx i with | some j=>Nat.beq j i | none=>false
def V.uB{T:Nat→Type}(ρ:Rho)(nx:Nat):V T→Bool
 | .ptr i _ _=>vJ ρ nx i
 | .sl i _ _ _=>vJ ρ nx i
 | .mp i=>vJ ρ nx i
 | .it i=>vJ ρ nx i
 | .fn _ vs us=>goL ρ nx vs&&goL ρ nx us
 | .ifc _ v=>V.uB ρ nx v
 | .agg vs=>goL ρ nx vs
 | .tup vs=>goL ρ nx vs
 | _=>true
where goL {T:Nat→Type} (ρ:Rho) (nx:Nat):List (V T)→Bool
 | []=>true
 | v::vs=>V.uB ρ nx v&&goL ρ nx vs
def O.uB{T:Nat→Type}(ρ:Rho)(nx:Nat):O T→Bool
 | .rows _ xs=>xs.all (V.uB.goL ρ nx)
 | .trows _ _=>true
 | .map _ es=>es.all fun e=>V.uB ρ nx e.1.1&&V.uB ρ nx e.1.2
 | .sit _ _=>true
 | .mit m _ _ _=>(match m with | some i=>vJ ρ nx i | none=>true)
def zJg(ls:List Ld)(n:Nat):Nat:=(ls.flatMap Ld.names).foldl (fun a m=>Nat.max a (m+1)) n
def qId(D:List Nat)(ls:List Ld)(st:St reg.T)(s:Sg reg ls):St reg.T :=
 ⟨iG (Sg.vals reg ls s) (lL D st.env),⟨iG (Sg.bY reg ls s) (lL (ls.flatMap Ld.names) st.hp.h),zJg ls st.hp.nx,ls.flatMap Ld.names++st.hp.wr⟩⟩
def qBc:Rho→List Nat
 | []=>[]
 | (_,some j)::l=>j::qBc l
 | (_,none)::l=>qBc l
def okR(n0 nx nxA:Nat)(ρ:Rho):Bool :=
 Nat.ble n0 nx&&Nat.ble nx nxA&&Tr.ok nxA&&iZ (qBc ρ)&&iZ (ρ.map (·.1))&&(qBc ρ).all (fun j=>Nat.ble nx j||kQ (ρ.map (·.1)) j) &&
  (ρ.map (·.1)).all (fun m=>Nat.blt m nxA)&&ρ.all fun p=>Nat.ble n0 p.1||vJ ρ nx p.1
def qXv(st st':St reg.T):List Nat:=st'.hp.wr.take (st'.hp.wr.length-st.hp.wr.length)
def qIe(D:List Nat)(ls:List Ld):Bool :=
 D.all Tr.ok&&(ls.flatMap Ld.slots).all (kQ D)&&(ls.flatMap Ld.names).all Tr.ok
def qHt(n0:Nat)(D:List Nat)(ls:List Ld)(st:St reg.T)(ρ:Rho)(st':St reg.T):Bool :=
 okR n0 st.hp.nx (zJg ls st.hp.nx) ρ&&(qXv reg st st').all (fun i=>Nat.ble st.hp.nx i||kQ (ls.flatMap Ld.names) i) &&
  (lL D st.env).allT (V.uB ρ st.hp.nx)&&(lL (ls.flatMap Ld.names) st.hp.h).allT (O.uB ρ st.hp.nx)
end
section
variable {reg:Reg} {P:Program} {hd:Hd reg.T} {nt:Nat}
theorem kE{α:Type}:∀{l:List Nat} {t:Tr α},(∀i∈l,Tr.ok i=true)→∀j,(lL l t).get j=if j∈l then none else t.get j
 | [],t,_,j=>by simp[lL]
 | i::l,t,h,j=>by
  simp only[lL]
  rw[Tr.iN (h i (by simp)),kE (fun k hk=>h k (by simp[hk]))]
  by_cases e:j=i
  ·subst e;simp
  ·simp[e]
theorem qGm{α:Type}{f:α→Bool}:∀{t:Tr α},t.allT f=true→∀{p:Nat} {x:α},t.qDM p=some x→f x=true
 | .e,_,p,x,h=>by simp[Tr.qDM] at h
 | .n l v r,ht,p,x,h=>by
  simp only[Tr.allT] at ht
  rw[Tr.qAh] at h
  split at ht
  ·rename_i hl
   have hr:(∀y,v=some y→f y=true)∧r.allT f=true:=by
    split at ht
    ·rename_i y
     split at ht
     ·rename_i hy;exact⟨fun z hz=>(by cases hz;exact hy),ht⟩
     ·cases ht
    ·exact⟨fun z hz=>(by cases hz),ht⟩
   split at h
   ·exact hr.1 _ h
   ·split at h
    ·exact qGm hl h
    ·exact qGm hr.2 h
  ·cases ht
theorem qES{α:Type}{f:α→Bool}{t:Tr α}(ht:t.allT f=true){i:Nat}{x:α}(h:t.get i=some x):f x=true:=qGm ht h
def qDW(ρ:Rho)(nx:Nat)(φ:Phi):Phi:=fun i=>match qF ρ nx i with | some j=>φ j | none=>none
theorem uO{ρ:Rho}{nx:Nat}{φ:Phi}{i:Nat}{p:Nat×Nat×Nat×Nat}(h:qDW ρ nx φ i=some p):∃j,qF ρ nx i=some j∧φ j=some p:=by
 unfold qDW at h
 split at h
 ·rename_i j hj;exact⟨j,hj,h⟩
 ·cases h
theorem qMQ{ρ:Rho}{nx i:Nat}(h:vJ ρ nx i=true):qF ρ nx i=some i:=by
 unfold vJ at h
 split at h
 ·rename_i j hj;rw[hj,Nat.eq_of_beq_eq_true h]
 ·cases h
theorem qCH{ρ:Rho}{nx:Nat}{φ:Phi}{i:Nat}(h:vJ ρ nx i=true):qDW ρ nx φ i=φ i:=by
 unfold qDW;rw[qMQ h]
theorem uP{T:Nat→Type}{ρ:Rho}{nx:Nat}:∀{vs:List (V T)},V.uB.goL ρ nx vs=true→∀j,(vs.getD j .any).uB ρ nx=true
 | [],_,j=>by simp[V.uB]
 | v::vs,h,j=>by
  simp only[V.uB.goL,Bool.and_eq_true] at h
  cases j with
  | zero=>simpa using h.1
  | succ j=>simpa using uP h.2 j
theorem qIq{ρ:Rho}{nx:Nat}{F:Nat→Prop}{w:World}{φ:Phi}{v:V reg.T}{cv:Value}(h:aK reg F w φ v cv):v.uB ρ nx=true→aK reg F w (qDW ρ nx φ) v cv:=by
 induction h with
 | d x v hd=>intro _;exact .d x v hd
 | ptr i r o b s k z hp=>intro hf;exact .ptr i r o b s k z ((qCH hf).trans hp)
 | fp row o a C t fz hFa hb hz hr=>intro _;exact .fp row o a C t fz hFa hb hz hr
 | sl i off len cap b s k z cap' hp hc hl hm' hz=>intro hf;exact .sl i off len cap b s k z cap' ((qCH hf).trans hp) hc hl hm' hz
 | slz i off cap base hc hb=>intro _;exact .slz i off cap base hc hb
 | mp i b s hp=>intro hf;exact .mp i b s ((qCH hf).trans hp)
 | it i b s hp=>intro hf;exact .it i b s ((qCH hf).trans hp)
 | fn f caps fst cs fs hz _ hz' _ ih ih' =>
  intro hf
  simp only[V.uB,Bool.and_eq_true] at hf
  exact .fn f caps fst cs fs hz (fun j hj=>ih j hj (uP hf.1 j)) hz' (fun j hj=>ih' j hj (uP hf.2 j))
 | agg vs cs hz _ ih=>intro hf;exact .agg vs cs hz fun j hj=>ih j hj (uP hf j)
 | tup vs cs hz _ ih=>intro hf;exact .tup vs cs hz fun j hj=>ih j hj (uP hf j)
 | ifc t v cv _ ih=>intro hf;exact .ifc t v cv (ih hf)
 | undef=>intro _;exact .undef
 | any v=>intro _;exact .any v
theorem zBU{ρ:Rho}{nx:Nat}{F:Nat→Prop}{w:World}{φ:Phi}{es:List ((V reg.T×V reg.T)×Nat)}{cs:List MapEntry}(h:jH reg F w φ es cs):(es.all fun e=>V.uB ρ nx e.1.1&&V.uB ρ nx e.1.2)=true→jH reg F w (qDW ρ nx φ) es cs:=by
 induction h with
 | nil=>intro _;exact .nil
 | cons k v n c es cs hk hv hn _ ih =>
  intro hf
  simp only[List.all_cons,Bool.and_eq_true] at hf
  exact .cons k v n c es cs (qIq hk hf.1.1) (qIq hv hf.1.2) hn (ih (by simpa using hf.2))
theorem zBV{ρ:Rho}{nx:Nat}{o:O reg.T}(ho:o.uB ρ nx=true)(r j:Nat):((o.row reg r).getD j .any).uB ρ nx=true:=by
 cases o with
 | rows k xs =>
  simp only[O.uB,List.all_eq_true] at ho
  refine uP ?_ j
  show V.uB.goL ρ nx (xs.getD r [])=true
  rcases Nat.lt_or_ge r xs.length with h | h
  ·rw[show xs.getD r []=xs[r] by simp[List.getD,h]]
   exact ho _ (List.getElem_mem h)
  ·rw[show xs.getD r []=[] by simp[List.getD,h]];rfl
 | trows e xs =>
  show((((reg.enc e (xs.getD r (reg.dflt e))).map V.d).getD j .any)).uB ρ nx=true
  simp only[List.getD,List.getElem?_map]
  cases (reg.enc e _)[j]?<;>rfl
 | map c es=>rfl
 | sit s p=>rfl
 | mit m a b c=>rfl
theorem zBW{ρ:Rho}{nx:Nat}{F:Nat→Prop}{w:World}{φ:Phi}{i:Nat}{o:O reg.T}(h:kY reg F w φ i o)(ho:o.uB ρ nx=true)(hi:vJ ρ nx i=true):kY reg F w (qDW ρ nx φ) i o:=by
 have e:=qCH (φ:=φ) hi
 rcases h with h | ⟨c,es,b,ces,rfl,h1,h2,h3⟩ | ⟨s,p,b,rfl,h1,h2⟩ | ⟨m,s,n,l,b,mb,rfl,h1,h2,h3⟩
 ·refine .inl ⟨h.1,?_⟩
  rcases h.2 with⟨h1,h2⟩ | ⟨b,s,C,t,fz,h1,h2,h3,h4⟩
  ·exact .inl ⟨h1,e.trans h2⟩
  ·exact .inr ⟨b,s,C,t,fz,e.trans h1,h2,h3,⟨h4.size,h4.len,⟨h4.at_.wid,h4.at_.bS,fun r j hr hj=>qIq (h4.at_.rel r j hr hj) (zBV ho r j)⟩⟩⟩
 ·exact .inr (.inl ⟨c,es,b,ces,rfl,e.trans h1,h2,zBU h3 (by simpa only[O.uB] using ho)⟩)
 ·exact .inr (.inr (.inl ⟨s,p,b,rfl,e.trans h1,h2⟩))
 ·refine .inr (.inr (.inr ⟨m,s,n,l,b,mb,rfl,e.trans h1,h2,?_⟩))
  cases m with
  | none=>exact h3
  | some j =>
   obtain⟨c,s',e1,e2⟩:=h3
   exact⟨c,s',(qCH (by simpa only[O.uB] using ho)).trans e1,e2⟩
theorem qB0{T:Nat→Type}{e e':Nat}{xs:List (T e)}{ys:List (T e')}(h:qBk xs e' = some ys):D.sl e xs=D.sl e' ys∧O.trows e xs=O.trows e' ys:=by
 obtain⟨he,hy⟩:=qDN h
 subst he;subst hy;exact⟨rfl,rfl⟩
def Agree(ρ:Rho)(φ φ':Phi):Prop:=∀m o,(m,o)∈ρ→φ' m=o.bind φ
def yS(ρ:Rho)(g:Nat→Option (O reg.T))(i:Nat)(o:Option Nat)(ob:O reg.T):Prop:=match o with
 | none=>∃e,ob=.trows e []
 | some j=>∃u,g j=some u∧∀(F:Nat→Prop) (w:World) (φ φ':Phi),Agree ρ φ φ'→φ' i=φ j→kY reg F w φ j u→kY reg F w φ' i ob
theorem Agree.sub{ρ ρ':Rho}{φ φ':Phi}(h:Agree ρ' φ φ')(hs:∀p∈ρ,p∈ρ'):Agree ρ φ φ':=fun m o hm=>h m o (hs _ hm)
theorem yS.sub{ρ ρ':Rho}{g:Nat→Option (O reg.T)}{i:Nat}{o:Option Nat}{ob:O reg.T}(h:yS ρ g i o ob)(hs:∀p∈ρ,p∈ρ'):yS ρ' g i o ob:=by
 cases o with
 | none=>exact h
 | some j=>obtain⟨u,h1,h2⟩:=h;exact⟨u,h1,fun F w φ φ' ha=>h2 F w φ φ' (ha.sub hs)⟩
theorem qMR{F:Nat→Prop}{w:World}{φ φ':Phi}{x:D reg.T}{cv:Value}(h:aK reg F w φ (.d x) cv):aK reg F w φ' (.d x) cv:=by
 cases h with
 | d _ _ hd=>exact .d _ _ hd
theorem qGn{F:Nat→Prop}{w:World}{φ φ':Phi}{i j e n:Nat}{ys:List (reg.T e)}(hi:φ' i=φ j)(h:kY reg F w φ j (.trows e ys)):kY reg F w φ' i (.trows e (ys.take n)):=by
 have h:=h.rows reg rfl
 refine .inl ⟨rfl,?_⟩
 rcases h.2 with⟨h1,h2⟩ | ⟨b,s,C,t,fz,h1,h2,h3,h4⟩
 ·have h1:ys.length=0:=h1
  exact .inl ⟨by show(ys.take n).length=0;rw[List.length_take];omega,hi.trans h2⟩
 ·have hl:(ys.take n).length≤ys.length:=by simp;omega
  have hk:∀r,r<(ys.take n).length→(O.trows e (ys.take n)).row reg r=(O.trows e ys).row reg r:=by
   intro r hr
   simp only[List.length_take] at hr
   show(reg.enc e ((ys.take n).getD r (reg.dflt e))).map V.d=(reg.enc e (ys.getD r (reg.dflt e))).map V.d
   have: (ys.take n).getD r (reg.dflt e)=ys.getD r (reg.dflt e):=by
    simp only[List.getD,List.getElem?_take];rw[if_pos (by omega)]
   rw[this]
  refine .inr ⟨b,s,C,t,fz,hi.trans h1,h2,h3,?_,?_,?_,?_,?_⟩
  ·have h5:(ys.take n).length*reg.k e≤ys.length*reg.k e:=Nat.mul_le_mul_right _ hl
   show s+(ys.take n).length*reg.k e≤C.size
   have h6:s+ys.length*reg.k e≤C.size:=h4.size
   omega
  ·have h6:ys.length≤9223372036854775807:=h4.len
   show(ys.take n).length≤_
   omega
  ·intro r hr
   rw[hk r hr];exact h4.at_.wid r (Nat.lt_of_lt_of_le hr hl)
  ·intro r c hr hc
   rw[hk r hr];exact h4.at_.bS r c (Nat.lt_of_lt_of_le hr hl) hc
  ·intro r c hr hc
   have h5:=h4.at_.rel r c (Nat.lt_of_lt_of_le hr hl) hc
   rw[hk r hr]
   have h6:c<(reg.enc e (ys.getD r (reg.dflt e))).length:=by rw[reg.len];exact hc
   have h7:((O.trows e ys).row reg r).getD c .any=.d ((reg.enc e (ys.getD r (reg.dflt e)))[c]):=by
    show((reg.enc e (ys.getD r (reg.dflt e))).map V.d).getD c .any=_
    rw[List.getD,List.getElem?_map,List.getElem?_eq_getElem h6];rfl
   rw[h7] at h5 ⊢
   exact qMR h5
theorem qET{k k':IntKind}(h:sameKind k k' = true):k=k':=by
 cases k<;>cases k'<;>first | rfl | cases h
theorem CD.zI2{T:Nat→Type}{c:CD}{x:D T}(h:c.is x=true):c.enc=x:=by
 cases c<;>cases x<;>simp only[CD.is] at h<;>first | (cases h;done) | rfl | (exact congrArg D.str (eq_of_beq h))
theorem Kd.lM{k:Kd}{cs:List (V reg.T)}{g:Nat→Option (O reg.T)}{x:k.T reg}{o:Option Nat}{b:Ob}(h:k.read reg cs g=some (b,x,o))(hb:okO b=true) :
  (k.enc reg x).length=cs.length∧(∀j,j<cs.length→((k.enc reg x).getD j .any).bS=true) ∧
   ∀(F:Nat→Prop) (w:World) (φ φ':Phi),Agree (kS k o []) φ φ'→∀j cv,j<cs.length→aK reg F w φ (cs.getD j .any) cv→aK reg F w φ' ((k.enc reg x).getD j .any) cv:=by
 have one:∀(v u:V reg.T),u.bS=true→(∀(F:Nat→Prop) (w:World) (φ φ':Phi),Agree (kS k o []) φ φ'→∀cv,aK reg F w φ v cv→aK reg F w φ' u cv)→[u].length=[v].length∧(∀j,j<[v].length→([u].getD j .any).bS=true) ∧
   ∀(F:Nat→Prop) (w:World) (φ φ':Phi),Agree (kS k o []) φ φ'→∀j cv,j<[v].length→aK reg F w φ ([v].getD j .any) cv→aK reg F w φ' ([u].getD j .any) cv:=by
  intro v u hu hr
  refine⟨rfl,fun j hj=>?_,fun F w φ φ' ha j cv hj h=>?_⟩
  ·have: j=0:=by simpa using hj
   subst this;exact hu
  ·have: j=0:=by simpa using hj
   subst this;exact hr F w φ φ' ha cv h
 cases k with
 | cst c =>
  simp only[Kd.read] at h
  split at h
  ·split at h
   ·rename_i hk
    cases h
    exact one _ _ rfl fun _ _ _ _ _ _ h=>(CD.zI2 hk)▸qMR h
   ·cases h
  ·cases h
 | int k =>
  simp only[Kd.read] at h
  split at h
  ·split at h
   ·rename_i hk
    cases h
    cases qET hk
    exact one _ _ rfl fun _ _ _ _ _ _ h=>qMR h
   ·cases h
  ·cases h
 | bool =>
  simp only[Kd.read] at h
  split at h
  ·cases h;exact one _ _ rfl fun _ _ _ _ _ _ h=>qMR h
  ·cases h
 | str =>
  simp only[Kd.read] at h
  split at h
  ·cases h;exact one _ _ rfl fun _ _ _ _ _ _ h=>qMR h
  ·cases h
 | dat e =>
  simp only[Kd.read] at h
  split at h
  ·split at h
   ·rename_i ys hc
    cases h
    refine one _ _ rfl fun F w φ φ' _ cv h=>?_
    have:= qMR (φ':=φ') h
    rw[(qB0 hc).1] at this
    exact this
   ·cases h
  ·cases h
   refine one _ _ rfl fun F w φ φ' _ cv h=>?_
   cases h with
   | d x v hd =>
    cases hd with
    | nils=>exact .d _ _ (.emp _ rfl rfl none 0)
    | emp x hx hl base cap=>cases hx
    | sl x n a cap C t fz hx=>cases hx
  ·cases h
 | own m e cut =>
  simp only[Kd.read] at h
  split at h
  ·cases h
   refine one _ _ rfl fun F w φ φ' _ cv h=>?_
   cases h with
   | d x v hd =>
    cases hd with
    | nils=>exact .slz m 0 (.least 0) none (Nat.le_refl 0) (fun _=>rfl)
    | emp x hx hl base cap=>cases hx
    | sl x n a cap C t fz hx=>cases hx
  ·rename_i j len cap
   split at h
   ·rename_i e' xs hg
    split at h
    ·rename_i ys hc
     have fin:∀(zs:List (reg.T e)),zs.length=len→∀(F:Nat→Prop) (w:World) (φ φ':Phi),Agree (kS (.own m e cut) (some j) []) φ φ'→∀cv,aK reg F w φ (.sl j 0 len cap) cv→aK reg F w φ' (.sl m 0 zs.length (.least 0)) cv:=by
      intro zs hz F w φ φ' ha cv hv
      have hm:φ' m=φ j:=ha m (some j) (by simp[kS])
      rw[hz]
      cases hv with
      | sl _ _ _ _ b s k z cap' hp hc hl hm' hz=>exact .sl m 0 len (.least 0) b s k z cap' (hm.trans hp) (Nat.zero_le _) hl hm' hz
      | slz _ _ _ base hc hb=>exact .slz m 0 (.least 0) base (Nat.le_refl 0) (fun _=>rfl)
     cases cut with
     | true =>
      cases h
      have h1:len≤ys.length:=Nat.le_of_ble_eq_true hb
      exact one _ _ rfl (fin _ (by simp;omega))
     | false =>
      cases h
      have h1:len=ys.length:=Nat.eq_of_beq_eq_true hb
      exact one _ _ rfl (fin _ h1.symm)
    ·cases h
   ·cases h
  ·cases h
 | rcd e =>
  simp only[Kd.read] at h
  split at h
  ·rename_i l hl
   split at h
   ·rename_i x' hx
    cases h
    have h1:=reg.law e l _ hx
    have h2:=rV hl
    subst h2
    refine⟨by simp[Kd.enc,h1.1],fun j hj=>?_,fun F w φ φ' _ j cv hj h=>?_⟩
    ·have hj':j<(reg.enc e x).length:=by rw[h1.1];simpa using hj
     show(((reg.enc e x).map V.d).getD j .any).bS=true
     simp[List.getD,hj',V.bS]
    ·have hj1:j<l.length:=by simpa using hj
     have hj':j<(reg.enc e x).length:=by rw[h1.1];exact hj1
     have e1:((l.map V.d).getD j .any:V reg.T)=.d (l.getD j .nilp):=by simp[List.getD,hj1]
     have e2:(((reg.enc e x).map V.d).getD j .any:V reg.T)=.d ((reg.enc e x).getD j .nilp):=by simp[List.getD,hj']
     rw[e1] at h
     show aK reg F w φ' (((reg.enc e x).map V.d).getD j .any) cv
     rw[e2]
     cases h with
     | d x v hd=>exact .d _ _ ((h1.2 j).rel hd)
   ·cases h
  ·cases h
theorem Kd.qJu{k:Kd}{cs:List (V reg.T)}{g:Nat→Option (O reg.T)}{x:k.T reg}{o:Option Nat}{b:Ob}(h:k.read reg cs g=some (b,x,o))(hb:okO b=true) :
  ∀i ob,(i,ob)∈k.bY reg x→(i,o)∈kS k o []∧yS (kS k o []) g i o ob:=by
 intro i ob hm
 cases k with
 | own m e cut =>
  simp only[Kd.bY,List.mem_singleton,Prod.mk.injEq] at hm
  obtain⟨rfl,rfl⟩:=hm
  refine⟨by simp[kS],?_⟩
  simp only[Kd.read] at h
  split at h
  ·cases h;exact⟨e,rfl⟩
  ·rename_i j len cap
   split at h
   ·rename_i e' xs hg
    split at h
    ·rename_i ys hc
     have hc2:=(qB0 hc).2
     cases cut with
     | true =>
      cases h
      exact⟨_,hg,fun F w φ φ' _ hi ho=>qGn hi (hc2▸ho)⟩
     | false =>
      cases h
      refine⟨_,hg,fun F w φ φ' _ hi ho=>?_⟩
      have:= qGn (n:=ys.length) hi (hc2▸ho)
      rw[List.take_length] at this
      exact this
    ·cases h
   ·cases h
  ·cases h
 | cst c=>simp[Kd.bY] at hm
 | int k=>simp[Kd.bY] at hm
 | bool=>simp[Kd.bY] at hm
 | str=>simp[Kd.bY] at hm
 | dat e=>simp[Kd.bY] at hm
 | rcd e=>simp[Kd.bY] at hm
theorem qMS{k:Kd}{o:Option Nat}{l:Rho}{p:Nat×Option Nat}:p∈kS k o l↔p∈kS k o []∨p∈l:=by
 cases k<;>simp[kS]
theorem qDX{k:Kd}{o:Option Nat}{l:Rho}:(kS k o l).map (·.1)=k.names++l.map (·.1):=by
 cases k<;>simp[kS,Kd.names]
theorem qMT{k:Kd}{v:V reg.T}{g:Nat→Option (O reg.T)}{x:k.T reg}{o:Option Nat}{b:Ob}(h:vI reg k v g=some (b,x,o))(hb:okO b=true) :
  (qJt reg k x).bS = !isRec k∧(∀(F:Nat→Prop) (w:World) (φ φ':Phi),Agree (kS k o []) φ φ'→∀cv,aK reg F w φ v cv→aK reg F w φ' (qJt reg k x) cv) ∧
   ∀i ob,(i,ob)∈k.bY reg x→(i,o)∈kS k o []∧yS (kS k o []) g i o ob:=by
 unfold vI at h
 unfold qJt
 split at h
 ·rename_i hr
  split at h
  ·rename_i cs
   obtain⟨h1,h2,h3⟩:=Kd.lM h hb
   rw[hr]
   refine⟨rfl,fun F w φ φ' ha cv hv=>?_,Kd.qJu h hb⟩
   cases hv with
   | agg vs cs hz hh=>exact .agg _ _ (h1.trans hz) fun j hj=>h3 F w φ φ' ha j _ (by omega) (hh j (by omega))
  ·cases h
 ·rename_i hr
  obtain⟨h1,h2,h3⟩:=Kd.lM h hb
  rw[hr]
  have e:(k.enc reg x).headD .any=(k.enc reg x).getD 0 .any:=by cases k.enc reg x<;>rfl
  simp only[e]
  exact⟨h2 0 (by simp),fun F w φ φ' ha cv hv=>h3 F w φ φ' ha 0 cv (by simp) hv,Kd.qJu h hb⟩
theorem qAy:∀{ks:List Kd} {cs:List (V reg.T)} {g:Nat→Option (O reg.T)} {x:Cs reg ks} {ρ:Rho} {b:Ob},xY reg ks cs g=some (b,x,ρ)→okO b=true →
  ρ.map (·.1)=ks.flatMap Kd.names∧(Cs.enc reg ks x).length=cs.length∧(∀j,j<cs.length→((Cs.enc reg ks x).getD j .any).bS=true) ∧
   (∀(F:Nat→Prop) (w:World) (φ φ':Phi),Agree ρ φ φ'→∀j cv,j<cs.length→aK reg F w φ (cs.getD j .any) cv→aK reg F w φ' ((Cs.enc reg ks x).getD j .any) cv) ∧
   ∀i ob,(i,ob)∈Cs.bY reg ks x→∃o,(i,o)∈ρ∧yS ρ g i o ob
 | [],cs,g,x,ρ,b,h,hb=>by
  simp only[xY] at h
  split at h
  ·cases h
   exact⟨rfl,rfl,fun j hj=>by simp at hj,fun _ _ _ _ _ j _ hj=>by simp at hj,fun i ob hm=>by simp[Cs.bY] at hm⟩
  ·cases h
 | k::ks,cs,g,x,ρ,_,h,hb=>by
  simp only[xY] at h
  split at h
  ·rename_i b y o b' z l hw h1 h2
   simp only[Option.some.injEq,Prod.mk.injEq] at h
   obtain⟨rfl,rfl,rfl⟩:=h
   obtain⟨hb1,hb2⟩:=qPs hb
   have hw:k.w reg≤cs.length:=Nat.le_of_ble_eq_true hw
   obtain⟨a1,a2,a3⟩:=Kd.lM h1 hb1
   have a4:=Kd.qJu h1 hb1
   obtain⟨b0,b1,b2,b3,b4⟩:=qAy h2 hb2
   have hl1:(cs.take (k.w reg)).length=k.w reg:=by simp;omega
   have hl2:(cs.drop (k.w reg)).length=cs.length-k.w reg:=by simp
   rw[hl1] at a1 a2
   rw[hl2] at b1 b2
   have get1:∀j,j<k.w reg→(cs.take (k.w reg)).getD j .any=cs.getD j .any∧(Cs.enc reg (k::ks) (y,z)).getD j .any=(k.enc reg y).getD j .any:=by
    intro j hj
    constructor
    ·simp only[List.getD,List.getElem?_take];rw[if_pos hj]
    ·simp only[Cs.enc,List.getD]
     rw[List.getElem?_append_left (by omega)]
   have get2:∀j,¬j<k.w reg→(cs.drop (k.w reg)).getD (j-k.w reg) .any=cs.getD j .any∧(Cs.enc reg (k::ks) (y,z)).getD j .any=(Cs.enc reg ks z).getD (j-k.w reg) .any:=by
    intro j hj
    constructor
    ·simp only[List.getD,List.getElem?_drop];rw[show k.w reg+(j-k.w reg)=j by omega]
    ·simp only[Cs.enc,List.getD]
     rw[List.getElem?_append_right (by omega),a1]
   have s1:∀p∈kS k o [],p∈kS k o l:=fun p hp=>qMS.2 (.inl hp)
   have s2:∀p∈l,p∈kS k o l:=fun p hp=>qMS.2 (.inr hp)
   refine⟨by rw[qDX,b0];simp,by simp only[Cs.enc,List.length_append];omega,fun j hj=>?_,fun F w φ φ' ha j cv hj hv=>?_,fun i ob hm=>?_⟩
   ·by_cases hjk:j<k.w reg
    ·rw[(get1 j hjk).2];exact a2 j hjk
    ·rw[(get2 j hjk).2];exact b2 _ (by omega)
   ·by_cases hjk:j<k.w reg
    ·rw[(get1 j hjk).2]
     exact a3 F w φ φ' (ha.sub s1) j cv (by omega) ((get1 j hjk).1▸hv)
    ·rw[(get2 j hjk).2]
     exact b3 F w φ φ' (ha.sub s2) _ cv (by omega) ((get2 j hjk).1▸hv)
   ·simp only[Cs.bY,List.mem_append] at hm
    rcases hm with hm | hm
    ·obtain⟨c1,c2⟩:=a4 i ob hm
     exact⟨o,s1 _ c1,c2.sub s1⟩
    ·obtain⟨o',c1,c2⟩:=b4 i ob hm
     exact⟨o',s2 _ c1,c2.sub s2⟩
  ·cases h
theorem qR2{F:Nat→Prop}{w:World}{φ φ':Phi}{i j k:Nat}{cs row:List (V reg.T)}(hl:row.length=cs.length)(hs:∀c,c<cs.length→(row.getD c .any).bS=true)
  (hr:∀c cv,c<cs.length→aK reg F w φ (cs.getD c .any) cv→aK reg F w φ' (row.getD c .any) cv) (hi:φ' i=φ j) (h:kY reg F w φ j (.rows k [cs])):kY reg F w φ' i (.rows row.length [row]):=by
 have h:=h.rows reg rfl
 refine .inl ⟨rfl,?_⟩
 rcases h.2 with⟨h1,h2⟩ | ⟨b,s,C,t,fz,h1,h2,h3,h4⟩
 ·cases h1
 ·have hk:cs.length=k:=h4.at_.wid 0 (by show 0<1;omega)
  have h5:s+1*k≤C.size:=h4.size
  have hk2:row.length=k:=hl.trans hk
  refine .inr ⟨b,s,C,t,fz,?_,h2,h3,?_,?_,?_,?_,?_⟩
  ·show φ' i=some (b,s,row.length,C.size)
   rw[hk2];exact hi.trans h1
  ·show s+1*row.length≤C.size
   rw[hk2];exact h5
  ·show 1≤_;omega
  ·intro r hr'
   have: r=0:=by have: r<1:=hr';omega
   subst this;rfl
  ·intro r c hr' hc
   have: r=0:=by have: r<1:=hr';omega
   subst this
   exact hs c (by have: c<row.length:=hc;omega)
  ·intro r c hr' hc
   have: r=0:=by have: r<1:=hr';omega
   subst this
   have hc':c<row.length:=hc
   have:= h4.at_.rel 0 c (by show 0<1;omega) (by show c<k;omega)
   have h7:=hr c _ (by omega) this
   have e1:0*(O.rows row.length [row]).k reg+c=0*(O.rows k [cs]).k reg+c:=by simp
   rw[e1]
   exact h7
theorem Ld.lM{l:Ld}{st:St reg.T}{x:l.T reg}{ρ:Rho}{b:Ob}(h:l.read reg st=some (b,x,ρ))(hb:okO b=true) :
  ρ.map (·.1)=l.names∧(∀t v,(t,v)∈l.vals reg x→t∈l.slots∧∃u,st.env.get t=some u∧∀(F:Nat→Prop) (w:World) (φ φ':Phi),Agree ρ φ φ'→∀cv,aK reg F w φ u cv→aK reg F w φ' v cv) ∧
   ∀i ob,(i,ob)∈l.bY reg x→∃o,(i,o)∈ρ∧yS ρ st.hp.get i o ob:=by
 cases l with
 | slot t k =>
  simp only[Ld.read] at h
  split at h
  ·rename_i v hv
   split at h
   ·rename_i b y o hr
    simp only[Option.some.injEq,Prod.mk.injEq] at h
    obtain⟨rfl,rfl,rfl⟩:=h
    obtain⟨_,h2,h3⟩:=qMT hr hb
    refine⟨by rw[qDX];simp[Ld.names],fun t' v' hm=>?_,fun i ob hm=>⟨o,h3 i ob hm⟩⟩
    simp only[Ld.vals,List.mem_singleton,Prod.mk.injEq] at hm
    obtain⟨rfl,rfl⟩:=hm
    exact⟨by simp[Ld.slots],v,hv,h2⟩
   ·cases h
  ·cases h
 | obj i ks =>
  simp only[Ld.read] at h
  split at h
  ·rename_i k cs hg
   split at h
   ·rename_i b y l hr
    simp only[Option.some.injEq,Prod.mk.injEq] at h
    obtain⟨rfl,rfl,rfl⟩:=h
    obtain⟨h0,h1,h2,h3,h4⟩:=qAy hr hb
    have s2:∀p∈l,p∈(i,some i)::l:=fun p hp=>by simp[hp]
    refine⟨by simp[Ld.names,h0],fun t' v' hm=>by simp[Ld.vals] at hm,fun i' ob hm=>?_⟩
    simp only[Ld.bY,List.mem_cons,Prod.mk.injEq] at hm
    rcases hm with⟨rfl,rfl⟩ | hm
    ·exact⟨some i',by simp,_,hg,fun F w φ φ' ha hi ho=>qR2 h1 h2 (fun c cv hc hv=>h3 F w φ φ' (ha.sub s2) c cv hc hv) hi ho⟩
    ·obtain⟨o,c1,c2⟩:=h4 i' ob hm
     exact⟨o,s2 _ c1,c2.sub s2⟩
   ·cases h
  ·cases h
 | rows i e =>
  simp only[Ld.read] at h
  split at h
  ·rename_i e' xs hg
   split at h
   ·rename_i ys hys
    cases h
    refine⟨rfl,fun t' v' hm=>by simp[Ld.vals] at hm,fun i' ob hm=>?_⟩
    simp only[Ld.bY,List.mem_singleton,Prod.mk.injEq] at hm
    obtain⟨rfl,rfl⟩:=hm
    refine⟨some i',by simp,_,hg,fun F w φ φ' _ hi ho=>?_⟩
    have h1:=(qB0 hys).2▸ho
    have h2:=qGn (n:=List.length x) hi h1
    rw[show List.take (List.length x) x=x from List.take_length] at h2
    exact h2
   ·cases h
  ·cases h
theorem qJv:∀{ls:List Ld} {st:St reg.T} {x:Sg reg ls} {ρ:Rho} {b:Ob},xZ reg ls st=some (b,x,ρ)→okO b=true →
  ρ.map (·.1)=ls.flatMap Ld.names∧(∀t v,(t,v)∈Sg.vals reg ls x→t∈ls.flatMap Ld.slots∧∃u,st.env.get t=some u∧∀(F:Nat→Prop) (w:World) (φ φ':Phi),Agree ρ φ φ'→∀cv,aK reg F w φ u cv→aK reg F w φ' v cv) ∧
   ∀i ob,(i,ob)∈Sg.bY reg ls x→∃o,(i,o)∈ρ∧yS ρ st.hp.get i o ob
 | [],st,x,ρ,b,h,hb=>by
  simp only[xZ] at h
  cases h
  exact⟨rfl,fun t v hm=>by simp[Sg.vals] at hm,fun i ob hm=>by simp[Sg.bY] at hm⟩
 | l::ls,st,x,ρ,_,h,hb=>by
  simp only[xZ] at h
  split at h
  ·rename_i b y r b' z r' h1 h2
   simp only[Option.some.injEq,Prod.mk.injEq] at h
   obtain⟨rfl,rfl,rfl⟩:=h
   obtain⟨hb1,hb2⟩:=qPs hb
   obtain⟨a1,a2,a3⟩:=Ld.lM h1 hb1
   obtain⟨b1,b2,b3⟩:=qJv h2 hb2
   have s1:∀p∈r,p∈r++r':=fun p hp=>by simp[hp]
   have s2:∀p∈r',p∈r++r':=fun p hp=>by simp[hp]
   refine⟨by rw[List.map_append,a1,b1];simp,fun t v hm=>?_,fun i ob hm=>?_⟩
   ·simp only[Sg.vals,List.mem_append] at hm
    rcases hm with hm | hm
    ·obtain⟨c0,u,c1,c2⟩:=a2 t v hm
     exact⟨by simp[c0],u,c1,fun F w φ φ' ha=>c2 F w φ φ' (ha.sub s1)⟩
    ·obtain⟨c0,u,c1,c2⟩:=b2 t v hm
     exact⟨by rw[List.flatMap_cons];exact List.mem_append_right _ c0,u,c1,fun F w φ φ' ha=>c2 F w φ φ' (ha.sub s2)⟩
   ·simp only[Sg.bY,List.mem_append] at hm
    rcases hm with hm | hm
    ·obtain⟨o,c1,c2⟩:=a3 i ob hm
     exact⟨o,s1 _ c1,c2.sub s1⟩
    ·obtain⟨o,c1,c2⟩:=b3 i ob hm
     exact⟨o,s2 _ c1,c2.sub s2⟩
  ·cases h
theorem qAz{α:Type}:∀{l:List (Nat×α)},iZ (l.map (·.1))=true→∀{i:Nat} {x:α},(i,x)∈l→dH l i=some x
 | (k,y)::l,h,i,x,hm=>by
  simp only[List.map_cons,iZ,Bool.and_eq_true,Bool.not_eq_true'] at h
  simp only[dH]
  rcases List.mem_cons.1 hm with hm | hm
  ·cases hm;rw[Nat.beq_refl]
  ·have hne:k≠i:=fun e=>by
    subst e
    have: kQ (l.map (·.1)) k=true:=gW.2 (List.mem_map.2 ⟨_,hm,rfl⟩)
    rw[h.1] at this;cases this
   rw[Tr.qIJ hne]
   exact qAz h.2 hm
theorem qCI:∀{ρ:Rho} {m j:Nat},(m,some j)∈ρ→j∈qBc ρ
 | (a,some b)::l,m,j,h=>by
  simp only[qBc]
  rcases List.mem_cons.1 h with h | h
  ·cases h;simp
  ·simp[qCI h]
 | (a,none)::l,m,j,h=>by
  simp only[qBc]
  rcases List.mem_cons.1 h with h | h
  ·cases h
  ·exact qCI h
theorem qCJ:∀{ρ:Rho},iZ (qBc ρ)=true→∀{i j k:Nat},(i,some k)∈ρ→(j,some k)∈ρ→i=j
 | (a,some b)::l,h,i,j,k,hi,hj=>by
  simp only[qBc,iZ,Bool.and_eq_true,Bool.not_eq_true'] at h
  have hn:∀m,(m,some b) ∉ l:=fun m hm=>by
   have: kQ (qBc l) b=true:=gW.2 (qCI hm)
   rw[h.1] at this;cases this
  rcases List.mem_cons.1 hi with hi | hi<;>rcases List.mem_cons.1 hj with hj | hj
  ·cases hi;cases hj;rfl
  ·cases hi;exact(hn _ hj).elim
  ·cases hj;exact(hn _ hi).elim
  ·exact qCJ h.2 hi hj
 | (a,none)::l,h,i,j,k,hi,hj=>by
  simp only[qBc] at h
  rcases List.mem_cons.1 hi with hi | hi<;>rcases List.mem_cons.1 hj with hj | hj
  ·cases hi
  ·cases hi
  ·cases hj
  ·exact qCJ h hi hj
structure zLj(n0 nx nxA:Nat)(ρ:Rho):Prop where
 le:n0≤nx
 le':nx≤nxA
 ok:Tr.ok nxA=true
 inj:∀i j k,qF ρ nx i=some k→qF ρ nx j=some k→i=j
 look:∀m o,(m,o)∈ρ→dH ρ m=some o
 dom:∀i k,qF ρ nx i=some k→i<nxA
 key:∀m o,(m,o)∈ρ→m<nxA
 self:∀i,i<n0→qF ρ nx i=some i
theorem zBX{n0 nx nxA:Nat}{ρ:Rho}(h:okR n0 nx nxA ρ=true):zLj n0 nx nxA ρ:=by
 unfold okR at h
 simp only[Bool.and_eq_true,List.all_eq_true,Bool.or_eq_true,gW] at h
 obtain⟨⟨⟨⟨⟨⟨⟨h1,h2⟩,h3⟩,h4⟩,h5⟩,h6⟩,h7⟩,h8⟩:=h
 have h1:n0≤nx:=Nat.le_of_ble_eq_true h1
 have h2:nx≤nxA:=Nat.le_of_ble_eq_true h2
 have hkey:∀m o,(m,o)∈ρ→m<nxA:=fun m o hm=>Nat.le_of_ble_eq_true (h7 m (List.mem_map.2 ⟨_,hm,rfl⟩))
 have hs:∀i k,qF ρ nx i=some k→(i,some k)∈ρ∨(dH ρ i=none∧i<nx∧k=i):=by
  intro i k hi
  unfold qF at hi
  split at hi
  ·rename_i o ho;subst hi;exact .inl (oO ho)
  ·rename_i ho
   split at hi
   ·rename_i hb;cases hi;exact .inr ⟨ho,Nat.le_of_ble_eq_true hb,rfl⟩
   ·cases hi
 have hno:∀i o,dH ρ i=none→(i,o) ∉ ρ:=fun i o hn hm=>by rw[qAz h5 hm] at hn;cases hn
 have mix:∀i j k,(i,some k)∈ρ→dH ρ j=none→j<nx→k=j→False:=by
  intro i j k hi hj hlt e
  subst e
  rcases h6 k (qCI hi) with h | h
  ·have: nx≤k:=Nat.le_of_ble_eq_true h;omega
  ·obtain⟨p,hp,e⟩:=List.mem_map.1 h
   obtain⟨m,o⟩:=p
   simp only at e;subst e
   exact hno _ _ hj hp
 refine⟨h1,h2,h3,fun i j k hi hj=>?_,fun m o hm=>qAz h5 hm,fun i k hi=>?_,hkey,fun i hi=>?_⟩
 ·rcases hs i k hi with hi | ⟨a1,a2,a3⟩<;>rcases hs j k hj with hj | ⟨b1,b2,b3⟩
  ·exact qCJ h4 hi hj
  ·exact(mix i j k hi b1 b2 b3).elim
  ·exact(mix j i k hj a1 a2 a3).elim
  ·omega
 ·rcases hs i k hi with hi | ⟨a1,a2,a3⟩
  ·exact hkey _ _ hi
  ·omega
 ·cases hl:dH ρ i with
  | none =>
   unfold qF
   rw[hl]
   have: Nat.blt i nx=true:=by show Nat.ble (i+1) nx=true;exact Nat.ble_eq_true_of_le (by omega)
   simp only[this]
  | some o =>
   rcases h8 _ (oO hl) with h | h
   ·have: n0≤i:=Nat.le_of_ble_eq_true h;omega
   ·exact qMQ h
theorem qGo{α:Type}:∀{l:List (Nat×α)} {t:Tr α} {j:Nat},(∀p∈l,Tr.ok p.1=true)→(∀p∈l,p.1≠j)→(iG l t).get j=t.get j
 | [],t,j,_,_=>rfl
 | (i,x)::l,t,j,h,hn=>by
  simp only[iG]
  rw[Tr.iN (h (i,x) (by simp)),if_neg (fun e=>hn (i,x) (by simp) e.symm),qGo (fun p hp=>h p (by simp[hp])) (fun p hp=>hn p (by simp[hp]))]
theorem qA0:∀{ls:List Ld} {s:Sg reg ls} {t:Nat} {v:V reg.T},(t,v)∈Sg.vals reg ls s→t∈ls.flatMap Ld.slots
 | [],s,t,v,h=>by simp[Sg.vals] at h
 | l::ls,s,t,v,h=>by
  simp only[Sg.vals,List.mem_append] at h
  rw[List.flatMap_cons,List.mem_append]
  rcases h with h | h
  ·left
   cases l with
   | slot t' k=>simp only[Ld.vals,List.mem_singleton,Prod.mk.injEq] at h;simp[Ld.slots,h.1]
   | obj i ks=>simp[Ld.vals] at h
   | rows i e=>simp[Ld.vals] at h
  ·exact .inr (qA0 h)
theorem qHu{k:Kd}{x:k.T reg}{i:Nat}{ob:O reg.T}(h:(i,ob)∈k.bY reg x):i∈k.names:=by
 cases k<;>simp[Kd.bY,Kd.names] at h ⊢
 exact h.1
theorem qEU:∀{ks:List Kd} {x:Cs reg ks} {i:Nat} {ob:O reg.T},(i,ob)∈Cs.bY reg ks x→i∈ks.flatMap Kd.names
 | [],x,i,ob,h=>by simp[Cs.bY] at h
 | k::ks,x,i,ob,h=>by
  simp only[Cs.bY,List.mem_append] at h
  rw[List.flatMap_cons,List.mem_append]
  rcases h with h | h
  ·exact .inl (qHu h)
  ·exact .inr (qEU h)
theorem eU:∀{ls:List Ld} {s:Sg reg ls} {i:Nat} {ob:O reg.T},(i,ob)∈Sg.bY reg ls s→i∈ls.flatMap Ld.names
 | [],s,i,ob,h=>by simp[Sg.bY] at h
 | l::ls,s,i,ob,h=>by
  simp only[Sg.bY,List.mem_append] at h
  rw[List.flatMap_cons,List.mem_append]
  rcases h with h | h
  ·left
   cases l with
   | slot t' k=>exact qHu h
   | obj j ks =>
    simp only[Ld.bY,List.mem_cons,Prod.mk.injEq] at h
    rcases h with h | h
    ·simp[Ld.names,h.1]
    ·simp only[Ld.names];exact List.mem_cons_of_mem _ (qEU h)
   | rows j e =>
    simp only[Ld.bY,List.mem_singleton,Prod.mk.injEq] at h
    simp[Ld.names,h.1]
  ·exact .inr (eU h)
theorem qEV:∀(l:List Nat) (n:Nat),n≤l.foldl (fun a m=>Nat.max a (m+1)) n
 | [],_n=>Nat.le_refl _
 | m::l,n=>Nat.le_trans (Nat.le_max_left n (m+1)) (qEV l _)
theorem qCK{D:List Nat}{ls:List Ld}(h:qIe D ls=true):(∀t∈D,Tr.ok t=true)∧(∀t∈ls.flatMap Ld.slots,t∈D)∧∀i∈ls.flatMap Ld.names,Tr.ok i=true:=by
 unfold qIe at h
 simp only[Bool.and_eq_true,List.all_eq_true,gW] at h
 exact⟨h.1.1,h.1.2,h.2⟩
theorem zG3{l:List Nat}{i:Nat}(h:kQ l i=false):i ∉ l:=fun hm=>by rw[gW.2 hm] at h;cases h
theorem qZF{D:List Nat}{ls:List Ld}(hs:qIe D ls=true){st:St reg.T}{s:Sg reg ls}{t:Nat}(ht:kQ D t=false):(qId reg D ls st s).env.get t=st.env.get t:=by
 obtain⟨h1,h2,h3⟩:=qCK hs
 have hn:=zG3 ht
 show(iG (Sg.vals reg ls s) (lL D st.env)).get t=_
 rw[qGo (fun p hp=>h1 _ (h2 _ (qA0 hp))) (fun p hp e=>hn (by rw[←e];exact h2 _ (qA0 hp))),kE h1,if_neg hn]
theorem yT{D:List Nat}{ls:List Ld}(hs:qIe D ls=true){st:St reg.T}{s:Sg reg ls}:Grow st.hp (qId reg D ls st s).hp:=by
 obtain⟨h1,h2,h3⟩:=qCK hs
 refine⟨qEV _ _,_,rfl,fun i hi _=>?_⟩
 show(iG (Sg.bY reg ls s) (lL (ls.flatMap Ld.names) st.hp.h)).get i=_
 rw[qGo (fun p hp=>h3 _ (eU hp)) (fun p hp e=>hi (by rw[←e];exact eU hp)),kE h3,if_neg hi]
 rfl
theorem zJh{n0:Nat}{F0:Nat→Prop}{φ0:Phi}{H0:Nat→Option (O reg.T)}{w0:World}{D:List Nat}{ls:List Ld}{st st2:St reg.T}{s:Sg reg ls}{ρ:Rho}{b:Ob}(hs:qIe D ls=true)(hc:qHt reg n0 D ls st ρ st2=true)
  (hr:xZ reg ls st2=some (b,s,ρ)) (hb:okO b=true) (hlt:∀i o,st.hp.get i=some o→i<st.hp.nx) (hK:∀t,kQ D t=false→st2.env.get t=st.env.get t)
  (hH:∀i,i<st.hp.nx→kQ (ls.flatMap Ld.names) i=false→st2.hp.get i=st.hp.get i) {a:Act} {w:World} (hR:RA n0 F0 φ0 H0 w0 nt st2 a w):RA n0 F0 φ0 H0 w0 nt (qId reg D ls st s) a w:=by
 obtain⟨N,F,φ,hN,hR,hG⟩:=hR
 obtain⟨h1,h2,h3⟩:=qCK hs
 unfold qHt at hc
 simp only[Bool.and_eq_true] at hc
 obtain⟨⟨⟨hc1,_⟩,hc3⟩,hc4⟩:=hc
 obtain⟨hk,hv,ho⟩:=qJv hr hb
 have R:=zBX hc1
 have ag:Agree ρ φ (qDW ρ st.hp.nx φ):=by
  intro m o hm
  unfold qDW qF
  rw[R.look m o hm]
  cases o<;>rfl
 have hm:∀i,i∈ls.flatMap Ld.names↔∃o,(i,o)∈ρ:=by
  intro i
  rw[←hk,List.mem_map]
  exact⟨fun⟨p,hp,e⟩=>⟨p.2,e▸hp⟩,fun⟨o,ho⟩=>⟨_,ho,rfl⟩⟩
 have hobj:∀i o,(qId reg D ls st s).hp.get i=some o→(qF ρ st.hp.nx i=none∧(∃e,o=.trows e []))∨∃j u,qF ρ st.hp.nx i=some j∧st2.hp.get j=some u∧(kY reg F w φ j u→kY reg F w (qDW ρ st.hp.nx φ) i o):=by
  intro i o hi
  rcases vG (fun p hp=>h3 _ (eU hp)) (show(iG (Sg.bY reg ls s) (lL (ls.flatMap Ld.names) st.hp.h)).get i=some o from hi) with h | h
  ·obtain⟨q,q1,q2⟩:=ho i o h
   have e:qF ρ st.hp.nx i=q:=by unfold qF;rw[R.look _ _ q1]
   cases q with
   | none=>exact .inl ⟨e,q2⟩
   | some j =>
    obtain⟨u,u1,u2⟩:=q2
    exact .inr ⟨j,u,e,u1,fun hu=>u2 F w φ _ ag (by unfold qDW;rw[e]) hu⟩
  ·have hfix:=qES hc4 h
   rw[kE h3] at h
   split at h
   ·cases h
   ·rename_i hn
    have hn':kQ (ls.flatMap Ld.names) i=false:=by
     cases hb:kQ (ls.flatMap Ld.names) i with
     | false=>rfl
     | true=>exact(hn (gW.1 hb)).elim
    have hi':i<st.hp.nx:=hlt i o h
    have hl:dH ρ i=none:=by
     cases hl:dH ρ i with
     | none=>rfl
     | some q=>exact(hn ((hm i).2 ⟨q,oO hl⟩)).elim
    have e:qF ρ st.hp.nx i=some i:=by
     unfold qF
     rw[hl]
     have: Nat.blt i st.hp.nx=true:=Nat.ble_eq_true_of_le hi'
     simp only[this]
    refine .inr ⟨i,o,e,(hH i hi' hn').trans h,fun hu=>zBW hu hfix ?_⟩
    unfold vJ
    rw[e]
    exact Nat.beq_refl i
 refine⟨fun i=>i<zJg ls st.hp.nx,F,qDW ρ st.hp.nx φ,fun i hi=>hi,⟨fun t v hv'=>?_,hR.size,⟨fun i o hi=>?_,fun i o b s' k hi hp=>?_,fun i j oi oj b s1 k1 s2 k2 hi hj hpi hpj=>?_,fun i p hp=>?_,fun i o hi=>?_,fun i hi=>qRn R.ok hi,hR.heap.frz,hR.heap.lay⟩,hR.dfs⟩,?_⟩
 ·rcases vG (fun p hp=>h1 _ (h2 _ (qA0 hp))) (show(iG (Sg.vals reg ls s) (lL D st.env)).get t=some v from hv') with h | h
  ·obtain⟨_,u,u1,u2⟩:=hv t v h
   obtain⟨g1,g2⟩:=hR.env t u u1
   exact⟨g1,u2 F w φ _ ag _ g2⟩
  ·have hfix:=qES hc3 h
   rw[kE h1] at h
   split at h
   ·cases h
   ·rename_i hn
    have hn':kQ D t=false:=by
     cases hb:kQ D t with
     | false=>rfl
     | true=>exact(hn (gW.1 hb)).elim
    obtain⟨g1,g2⟩:=hR.env t v ((hK t hn').trans h)
    exact⟨g1,qIq g2 hfix⟩
 ·rcases hobj i o hi with⟨e,e2,rfl⟩ | ⟨j,u,e,hu,hrel⟩
  ·exact .inl ⟨rfl,.inl ⟨rfl,by show qDW ρ st.hp.nx φ i=none;unfold qDW;rw[e]⟩⟩
  ·exact hrel (hR.heap.obj j u hu)
 ·obtain⟨j,e,hp'⟩:=uO hp
  rcases hobj i o hi with⟨e',_⟩ | ⟨j',u,e',hu,_⟩
  ·rw[e] at e';cases e'
  ·rw[e] at e';cases e'
   exact hR.heap.own j u b s' k hu hp'
 ·obtain⟨i',e,hp1⟩:=uO hpi
  obtain⟨j',e',hp2⟩:=uO hpj
  rcases hobj i oi hi with⟨e1,_⟩ | ⟨i2,u,e1,hu,_⟩
  ·rw[e] at e1;cases e1
  ·rcases hobj j oj hj with⟨e3,_⟩ | ⟨j2,u',e3,hu',_⟩
   ·rw[e'] at e3;cases e3
   ·rw[e] at e1;cases e1
    rw[e'] at e3;cases e3
    have:= hR.heap.inj i' j' u u' b s1 k1 s2 k2 hu hu' hp1 hp2
    subst this
    exact R.inj i j i' e e'
 ·obtain⟨j,e,_⟩:=uO hp
  exact R.dom i j e
 ·rcases vG (fun p hp=>h3 _ (eU hp)) (show(iG (Sg.bY reg ls s) (lL (ls.flatMap Ld.names) st.hp.h)).get i=some o from hi) with h | h
  ·obtain⟨q,q1,_⟩:=ho i o h
   exact R.key i q q1
  ·rw[kE h3] at h
   split at h
   ·cases h
   ·exact Nat.lt_of_lt_of_le (hlt i o h) R.le'
 ·refine⟨hG.os,hG.tape,hG.output,hG.size,hG.block,hG.fsub,hG.fnew,fun i hi=>?_,fun i hi=>Nat.lt_of_lt_of_le hi (Nat.le_trans R.le R.le'),fun b ⟨i,o,s',k,hi,hp⟩=>?_,fun i p hp=>?_⟩
  ·rw[←hG.phi i hi]
   unfold qDW
   rw[R.self i hi]
  ·obtain⟨j,e,hp'⟩:=uO hp
   rcases hobj i o hi with⟨e',_⟩ | ⟨j',u,e',hu,_⟩
   ·rw[e] at e';cases e'
   ·rw[e] at e';cases e'
    exact hG.dom b ⟨j,u,s',k,hu,hp'⟩
  ·obtain⟨j,e,hp'⟩:=uO hp
   rcases hG.new j p hp' with h | h
   ·left
    have: i=j:=R.inj i j j e (R.self j h)
    subst this
    exact h
   ·exact .inr h
end
end Go.W
namespace Go.W
open Go Go.RowKit
def zBY:Kd→Bool
 | .own _ _ _=>true
 | _=>false
def iM{T:Nat→Type}(env:Tr (V T)):List Ld→List (Nat×V T)
 | []=>[]
 | .slot t k::ls=>(match zBY k,env.get t with
  | false,some v=>(t,v)::iM env ls
  | _,_=>iM env ls)
 | _::ls=>iM env ls
def qEW{T:Nat→Type}:List (V T)→List Nat→List Nat
 | [],l=>l
 | v::vs,l=>qEW vs (match v with
  | .sl i _ _ _=>addN l i
  | .agg us=>goL us l
  | _=>l)
where goL {T:Nat→Type}:List (V T)→List Nat→List Nat
 | [],l=>l
 | v::vs,l=>goL vs (match v with
  | .sl i _ _ _=>addN l i
  | _=>l)
def qPt(reg:Reg):List Kd→List (V reg.T)→List (V reg.T)
 | [],_=>[]
 | k::ks,cs=>(match zBY k with
  | true=>qPt reg ks (cs.drop (k.w reg))
  | false=>cs.take (k.w reg)++qPt reg ks (cs.drop (k.w reg)))
def zJi(reg:Reg)(g:Nat→Option (O reg.T)):List Ld→List Nat→List Nat
 | [],l=>l
 | .obj i ks::ls,l=>zJi reg g ls (match g i with
  | some (.rows _ [cs])=>qEW (qPt reg ks cs) l
  | _=>l)
 | _::ls,l=>zJi reg g ls l
def zBZ{T:Nat→Type}(g:Nat→Option (O T))(l:List Nat):List Nat:=l.foldl (fun a i=>qEO (g i) a) []++l
def qPu{T:Nat→Type}:List (Nat×V T)→List (V T)→List (Nat×V T)
 | (t,_)::l,v::vs=>(t,v)::qPu l vs
 | _,_=>[]
section
variable (reg:Reg)
def qJw(ls:List Ld)(st:St reg.T):Out (St reg.T):=match zJi reg st.hp.get ls (qEW ((iM st.env ls).map (·.2)) []) with
 | []=>.ret st
 | i::l=>(qDT reg (List.range st.hp.nx) (zBZ st.hp.get (i::l)) (.tup ((iM st.env ls).map (·.2)),st.hp)).bind fun r=>(match r.1 with
  | .tup vs=>.ret ⟨iG (qPu (iM st.env ls) vs) st.env,r.2⟩
  | _=>.bad)
end
section
variable {reg:Reg} {P:Program} {nt:Nat}
theorem oC{T:Nat→Type}{env:Tr (V T)}:∀{ls:List Ld} {t:Nat} {v:V T},(t,v)∈iM env ls→env.get t=some v∧t∈ls.flatMap Ld.slots
 | [],t,v,h=>by simp[iM] at h
 | .slot u k::ls,t,v,h=>by
  simp only[iM] at h
  split at h
  ·rename_i w _ hw
   rcases List.mem_cons.1 h with e | e
   ·cases e;exact⟨hw,by simp[Ld.slots]⟩
   ·have:= oC e;exact⟨this.1,by simp only[List.flatMap_cons,List.mem_append];exact .inr this.2⟩
  ·have:= oC h;exact⟨this.1,by simp only[List.flatMap_cons,List.mem_append];exact .inr this.2⟩
 | .obj i ks::ls,t,v,h=>by
  have:= oC (ls:=ls) (by simpa only[iM] using h)
  exact⟨this.1,by simp only[List.flatMap_cons,List.mem_append];exact .inr this.2⟩
 | .rows i e::ls,t,v,h=>by
  have:= oC (ls:=ls) (by simpa only[iM] using h)
  exact⟨this.1,by simp only[List.flatMap_cons,List.mem_append];exact .inr this.2⟩
theorem qJx{T:Nat→Type}:∀{l:List (Nat×V T)} {vs:List (V T)} {t:Nat} {v:V T},(t,v)∈qPu l vs→∃(j:Nat) (u:V T),l[j]? = some (t,u)∧vs[j]? = some v
 | [],_,t,v,h=>by simp[qPu] at h
 | _::_,[],t,v,h=>by simp[qPu] at h
 | (u,x)::l,y::vs,t,v,h=>by
  simp only[qPu,List.mem_cons] at h
  rcases h with e | e
  ·cases e;exact⟨0,x,rfl,rfl⟩
  ·obtain⟨j,z,h1,h2⟩:=qJx e;exact⟨j+1,z,by simpa using h1,by simpa using h2⟩
theorem qJy{α:Type}:∀{l:List (Nat×α)} {t:Tr α},(∀p∈l,Tr.ok p.1=true)→∀{i:Nat},(∀p∈l,p.1≠i)→(iG l t).get i=t.get i
 | [],t,_,i,_=>rfl
 | (j,x)::l,t,hk,i,h=>by
  simp only[iG]
  rw[Tr.iN (hk (j,x) (by simp)),if_neg (fun e=>h (j,x) (by simp) e.symm)]
  exact qJy (fun p hp=>hk p (by simp[hp])) (fun p hp=>h p (by simp[hp]))
theorem zCa{ls:List Ld}{st st':St reg.T}(hs:∀t∈ls.flatMap Ld.slots,Tr.ok t=true)(hK:(qJw reg ls st).K (·= st')) :
  (∀t,t ∉ ls.flatMap Ld.slots→st'.env.get t=st.env.get t)∧∀{n0:Nat} {F0:Nat→Prop} {φ0:Phi} {H0:Nat→Option (O reg.T)} {w0:World} {a:Act} {w:World},RA n0 F0 φ0 H0 w0 nt st a w→Grow st.hp st'.hp∧RA n0 F0 φ0 H0 w0 nt st' a w:=by
 unfold qJw at hK
 split at hK
 ·cases hK
  exact⟨fun _ _=>rfl,fun h=>⟨Grow.refl _,h⟩⟩
 ·rw[Out.dP] at hK
  obtain⟨r,h1,h2⟩:=(Out.gH _ _).1 hK
  have ht:=qCC (h0:=st.hp) h1
  split at h2
  ·rename_i vs hv
   cases h2
   have hz:∀p∈qPu (iM st.env ls) vs,p.1∈ls.flatMap Ld.slots:=by
    intro p hp
    obtain⟨j,u,e1,_⟩:=qJx (t:=p.1) (v:=p.2) hp
    exact(oC (List.mem_of_getElem? e1)).2
   refine⟨fun t htn=>qJy (fun p hp=>hs _ (hz p hp)) (fun p hp e=>htn (e▸hz p hp)),fun{n0 F0 φ0 H0 w0 a w} hRA=>?_⟩
   obtain⟨N,F,φ,hN,hR,hG⟩:=hRA
   let cargs:Array Value:=((iM st.env ls).map fun p=>a.tmps.getD p.1 undef).toArray
   have hl:nL F w φ ((iM st.env ls).map (·.2)) cargs:=by
    refine⟨by simp[cargs],fun j hj=>?_⟩
    rw[List.length_map] at hj
    have h3:(iM st.env ls)[j]? = some (iM st.env ls)[j]:=List.getElem?_eq_getElem hj
    have h4:=oC (t:=(iM st.env ls)[j].1) (v:=(iM st.env ls)[j].2) (List.getElem_mem hj)
    have h5:=(hR.env _ _ h4.1).2
    simpa [cargs,List.getD,hj] using h5
   obtain⟨v2,h',N',F',φ',e,hv',hH',hG'⟩:=ht.2 N F φ w (.tuple cargs) w ⟨_,st.hp,N,F,φ,rfl,.tup _ cargs hl.1 hl.2,hR.heap,GO.refl hR.heap⟩
   subst e
   have hv:v2=.tup vs:=hv
   subst hv
   cases hv' with
   | tup _ _ hzz hh =>
    refine⟨hG'.grow,RA.go hN hG (st':=⟨iG (qPu (iM st.env ls) vs) st.env,h'⟩) ⟨fun t v htv=>?_,hR.size,hH',hR.dfs⟩ hG'⟩
    rcases vG (fun p hp=>hs _ (hz p hp)) (show(iG (qPu (iM st.env ls) vs) st.env).get t=some v from htv) with e1 | e1
    ·obtain⟨j,u,e2,e3⟩:=qJx e1
     have e4:=oC (List.mem_of_getElem? e2)
     have hj:j<vs.length:=(List.getElem?_eq_some_iff.1 e3).1
     refine⟨(hR.env t u e4.1).1,?_⟩
     have h6:=hh j hj
     have e5:vs.getD j .any=v:=by simp[List.getD,e3]
     have e7:j<(iM st.env ls).length:=(List.getElem?_eq_some_iff.1 e2).1
     have e8:(iM st.env ls)[j]=(t,u):=(List.getElem?_eq_some_iff.1 e2).2
     have e6:cargs.getD j undef=a.tmps.getD t undef:=by simp[cargs,Array.getD,e7,e8]
     rw[e5,e6] at h6
     exact h6
    ·obtain⟨g1,g2⟩:=hR.env t v e1
     exact⟨g1,aK.mono reg (fun b hb=>⟨hG'.goes.fsub b hb,rfl⟩) (fun i p hp=>(hG'.goes.phi i (hR.heap.dom i p hp)).trans hp) g2⟩
  ·exact h2.elim
end
section
universe u
variable {T:Nat→Type}
def qHv{α:Type}{β:Sort u}:Nat→Tr α→Nat→Option α→(Tr α→β)→β
 | 0,t,_,_,k=>k t
 | f+1,t,p,x,k=>(match t with
  | .e=>(match Nat.beq p 1 with
   | true=>k (.n .e x .e)
   | false=>(match Nat.beq (Nat.mod p 2) 0 with
    | true=>qHv f .e (Nat.div p 2) x fun l=>k (.n l none .e)
    | false=>qHv f .e (Nat.div p 2) x fun r=>k (.n .e none r)))
  | .n l v r=>(match Nat.beq p 1 with
   | true=>k (.n l x r)
   | false=>(match Nat.beq (Nat.mod p 2) 0 with
    | true=>qHv f l (Nat.div p 2) x fun l=>k (.n l v r)
    | false=>qHv f r (Nat.div p 2) x fun r=>k (.n l v r))))
theorem qB1{α:Type}{β:Sort u}:∀(f:Nat) (t:Tr α) (p:Nat) (x:Option α) (k:Tr α→β),qHv f t p x k=k (Tr.qD2 f t p x)
 | 0,t,p,x,k=>rfl
 | f+1,t,p,x,k=>by
  cases t with
  | e =>
   simp only[qHv,Tr.qD2]
   cases Nat.beq p 1 with
   | true=>rfl
   | false =>
    cases Nat.beq (Nat.mod p 2) 0 with
    | true=>exact qB1 f _ _ _ _
    | false=>exact qB1 f _ _ _ _
  | n l v r =>
   simp only[qHv,Tr.qD2]
   cases Nat.beq p 1 with
   | true=>rfl
   | false =>
    cases Nat.beq (Nat.mod p 2) 0 with
    | true=>exact qB1 f _ _ _ _
    | false=>exact qB1 f _ _ _ _
def qMu{β:Sort u}(st:St T)(dst:Option Nat)(v:V T)(k:St T→β):β:=match dst with
 | some d=>vS v fun v=>qHv 64 st.env (d+1) (some v) fun env=>k ⟨env,st.hp⟩
 | none=>k st
theorem rP{β:Sort u}(st:St T)(dst:Option Nat)(v:V T)(k:St T→β):qMu st dst v k=k (st.put dst v):=by
 cases dst with
 | none=>rfl
 | some d=>simp only[qMu];rw[qHs,qB1];rfl
def trH{α:Type}{β:Sort u}(t:Tr α)(k:Tr α→β):β:=match t with
 | .e=>k .e
 | .n l v r=>k (.n l v r)
theorem zJj{α:Type}{β:Sort u}(t:Tr α)(k:Tr α→β):trH t k=k t:=by cases t<;>rfl
def zCb:Op→Bool
 | .move _=>true
 | .assign _=>true
 | .pick _ _ _=>true
 | .fieldAddr _ _ _=>true
 | .load _ _=>true
 | .nilCheck _=>true
 | .binOp _ _ _ _ _=>true
 | .unOp _ _ _=>true
 | .indexAddr _ _ _=>true
 | .index _ _ _=>true
 | .field _ _ _=>true
 | .extract _ _=>true
 | _=>false
def lnH{β:Sort u}(l:List Nat)(k:List Nat→β):β:=match l with
 | []=>k []
 | n::l=>k (n::l)
theorem zCc{β:Sort u}(l:List Nat)(k:List Nat→β):lnH l k=k l:=by cases l<;>rfl
def hpS{β:Sort u}(o:Op)(h:Hp T)(k:Hp T→β):β:=match zCb o with
 | true=>trH h.h fun t=>qJq h.nx fun n=>lnH h.wr fun wr=>k ⟨t,n,wr⟩
 | false=>trS oS h.h fun t=>qJq h.nx fun n=>lnH h.wr fun wr=>k ⟨t,n,wr⟩
theorem yA{β:Sort u}(o:Op)(h:Hp T)(k:Hp T→β):hpS o h k=k h:=by
 unfold hpS
 cases zCb o with
 | true=>simp only[];rw[zJj,mM,zCc]
 | false=>simp only[];rw[pI qMP,mM,zCc]
end
def qZG(ops:Array Oper)(o:Oper)(m:Nat):List Oper→Nat→Bool
 | [],_=>true
 | p::ps,n=>(match m.testBit (Nat.sub n 1) with
  | true=>qZG ops o m ps (Nat.sub n 1)
  | false=>(match p.apart ops o with | true=>qZG ops o m ps (Nat.sub n 1) | false=>false))
def qR3(ops:Array Oper):List Oper→List Nat→List Oper→Nat→Bool
 | [],_,_,_=>true
 | _::_,[],_,_=>false
 | o::l,m::ms,prev,n=>(match qZG ops o m prev n with | true=>qR3 ops l ms (o::prev) (n+1) | false=>false)
theorem qGp{ops:Array Oper}{o:Oper}{m:Nat}:∀{prev:List Oper} {n:Nat},n=prev.length→qZG ops o m prev n=true→∀(i:Nat) (p:Oper),prev.reverse[i]? = some p→m.testBit i=false→p.apart ops o=true
 | [],_,_,_,i,p,hp,_=>by simp at hp
 | q::ps,n,hn,h,i,p,hp,hm=>by
  have hn1:Nat.sub n 1=ps.length:=by rw[hn];simp
  rw[List.reverse_cons] at hp
  rcases Nat.lt_or_ge i ps.length with hi | hi
  ·rw[List.getElem?_append_left (by simpa using hi)] at hp
   simp only[qZG] at h
   split at h
   ·exact qGp hn1 h i p hp hm
   ·split at h
    ·exact qGp hn1 h i p hp hm
    ·cases h
  ·rw[List.getElem?_append_right (by simpa using hi)] at hp
   have hi2:i=ps.length:=by
    have:= (List.getElem?_eq_some_iff.1 hp).1
    simp at this
    omega
   subst hi2
   simp at hp
   subst hp
   simp only[qZG,hn1,hm] at h
   split at h
   ·rename_i hq;exact hq
   ·cases h
theorem qJz{ops:Array Oper}:∀{l:List Oper} {ms:List Nat} {prev:List Oper} {n:Nat},n=prev.length→qR3 ops l ms prev n=true→∀(j:Nat) (o:Oper),l[j]? = some o →
  ∃m,ms[j]? = some m∧∀(i:Nat) (p:Oper),(prev.reverse++l)[i]? = some p→i<prev.length+j→m.testBit i=false→p.apart ops o=true
 | [],_,_,_,_,_,j,o,hj=>by simp at hj
 | _::_,[],_,_,_,h,_,_,_=>by simp only[qR3,Bool.false_eq_true] at h
 | o0::l,m0::ms,prev,n,hn,h,j,o,hj=>by
  simp only[qR3] at h
  split at h
  ·rename_i hr
   cases j with
   | zero =>
    simp at hj
    subst hj
    refine⟨m0,by simp,fun i p hp hi hm=>?_⟩
    rw[List.getElem?_append_left (by simpa using hi)] at hp
    exact qGp hn hr i p hp hm
   | succ j =>
    obtain⟨m,h1,h2⟩:=qJz (prev:=o0::prev) (n:=n+1) (by simp[hn]) h j o (by simpa using hj)
    refine⟨m,by simpa using h1,fun i p hp hi hm=>h2 i p ?_ (by simp;omega) hm⟩
    rw[List.reverse_cons,List.append_assoc]
    exact hp
  ·cases h
def qUK(ms:List Nat)(a b:iY):Bool :=
 match Nat.blt a.at_ b.at_ with
 | true=>(match (ms.getD b.at_ 0).testBit a.at_ with | true=>true | false=>a.apart b)
 | false=>(match Nat.blt b.at_ a.at_ with
  | true=>(match (ms.getD a.at_ 0).testBit b.at_ with | true=>true | false=>b.apart a)
  | false=>true)
def noW(a:iY):Bool:=match a.wr with | []=>true | _::_=>false
def yU(ops:Array Oper)(tr:List iY):Bool :=
 match back ops.toList 0&&qR3 ops ops.toList (masks ops.toList []) [] 0 with
 | true=>(match tr.all fun f=>Nat.blt f.at_ ops.size with
  | true=>tr.all fun a=>(match noW a with | true=>true | false=>tr.all (qUK (masks ops.toList []) a))
  | false=>false)
 | false=>false
theorem qZH{a b:iY}(ha:noW a=true)(hb:noW b=true):a.apart b=true:=by
 unfold noW at ha hb
 split at ha
 ·rename_i h1
  split at hb
  ·rename_i h2
   simp[iY.apart,h1,h2,meets]
  ·cases hb
 ·cases ha
theorem qHw{ops:Array Oper}{tr:List iY}(h:yU ops tr=true):qED ops tr=true:=by
 unfold yU at h
 split at h
 ·rename_i hb
  obtain⟨hb,hs⟩:=Bool.and_eq_true_iff.1 hb
  split at h
  ·rename_i hl
   unfold qED
   simp only[hb,Bool.true_and,List.all_eq_true]
   intro b hbm a ham
   cases hlt:Nat.blt a.at_ b.at_ with
   | false=>rfl
   | true =>
    cases ht:((masks ops.toList []).getD b.at_ 0).testBit a.at_ with
    | true=>simp
    | false =>
     have h1:a.at_<b.at_:=by simpa using hlt
     have h2:b.at_<ops.size:=by simpa using List.all_eq_true.1 hl b hbm
     have e2:ops.toList[b.at_]? = some ops[b.at_]:=by simp[h2]
     have e1:ops.toList[a.at_]? = some (ops[a.at_]'(by omega)):=by simp
     obtain⟨m,hm,hst⟩:=qJz rfl hs b.at_ _ e2
     have hbit:m.testBit a.at_=false:=by simpa [List.getD,hm] using ht
     have hap:(ops[a.at_]'(by omega)).apart ops ops[b.at_]=true:=hst a.at_ _ e1 (by simpa using h1) hbit
     have hdy:a.apart b=true:=by
      have ha:=List.all_eq_true.1 h a ham
      have hb':=List.all_eq_true.1 h b hbm
      cases na:noW a with
      | false =>
       rw[na] at ha
       have:= List.all_eq_true.1 ha b hbm
       unfold qUK at this
       rw[hlt,ht] at this
       exact this
      | true =>
       cases nb:noW b with
       | true=>exact qZH na nb
       | false =>
        rw[nb] at hb'
        have:= List.all_eq_true.1 hb' a ham
        unfold qUK at this
        have hgt:Nat.blt b.at_ a.at_=false:=by
         cases hx:Nat.blt b.at_ a.at_ with
         | false=>rfl
         | true=>have: b.at_<a.at_:=(by simpa using hx);omega
        rw[hgt,hlt,ht] at this
        exact this
     have e1':ops[a.at_]? = some (ops[a.at_]'(by omega)):=by simp
     have e2':ops[b.at_]? = some ops[b.at_]:=by simp[h2]
     simp[e1',e2',hap,hdy]
  ·cases h
 ·cases h
section
variable (reg:Reg) (P:Program)
def qJ0(hd:Hd reg.T)(nt:Nat)(ops:Array Oper):List Oper→St reg.T→Out (St reg.T)
 | [],st=>.ret st
 | o::rest,st =>
  match mY nt o.dst with
  | false=>.bad
  | true =>
  let run (st:St reg.T):Out (St reg.T):=(iO P hd o.op (valOf st.env.get) st.hp).bind fun r=>Out.ask (Nat.ble st.hp.nx r.2.nx) (hpS o.op r.2 fun h=>qMu ⟨st.env,h⟩ o.dst r.1 fun st=>qJ0 hd nt ops rest st)
  let skip (st:St reg.T):Out (St reg.T):=qMu st o.dst .undef fun st=>qJ0 hd nt ops rest st
  match o.guard with
  | none=>run st
  | some (j,want) =>
   match (ops[j]?).bind (·.dst) with
   | none=>.bad
   | some d =>
    match st.env.get d with
    | some (.d (.bool b)) =>
     .br b (match want with | true=>run (st.fix d true) | false=>skip (st.fix d true)) (match want with | true=>skip (st.fix d false) | false=>run (st.fix d false))
    | some .undef=>skip st
    | _=>.bad
def qEX(hd:Hd reg.T)(nt:Nat)(ops:Array Oper):List Oper→Nat→St reg.T→List iY→Out (St reg.T×List iY)
 | [],_,st,tr=>.ret (st,tr)
 | o::rest,n,st,tr =>
  match mY nt o.dst with
  | false=>.bad
  | true =>
  let run (st:St reg.T):Out (St reg.T×List iY) :=
   lnS (fU o.op (valOf st.env.get) st.hp.get) fun l =>
   (iO P hd o.op (valOf st.env.get) (lC st.hp.get st.hp.nx l)).bind fun r=>qJq r.2.nx fun nx=>lnS r.2.wr fun wr0 =>
    lnS (r.2.wr++List.range' st.hp.nx (r.2.nx-st.hp.nx)) fun wr =>
    Out.ask (nX l wr0 st.hp.nx nx) (hpS o.op (st.hp.join r.2 wr) fun h=>qMu ⟨st.env,h⟩ o.dst r.1 fun st1=>qEX hd nt ops rest (n+1) st1 (⟨n,l,wr,st.hp.nx,nx⟩::tr))
  let skip (st:St reg.T):Out (St reg.T×List iY):=qMu st o.dst .undef fun st1=>qEX hd nt ops rest (n+1) st1 (⟨n,[],[],st.hp.nx,st.hp.nx⟩::tr)
  match o.guard with
  | none=>run st
  | some (j,want) =>
   match (ops[j]?).bind (·.dst) with
   | none=>.bad
   | some d =>
    match st.env.get d with
    | some (.d (.bool b)) =>
     .br b (match want with | true=>run (st.fix d true) | false=>skip (st.fix d true)) (match want with | true=>skip (st.fix d false) | false=>run (st.fix d false))
    | some .undef=>skip st
    | _=>.bad
def qPv(hd:Hd reg.T)(nt:Nat)(ops:Array Oper)(draw:Bool)(st:St reg.T):Out (St reg.T) :=
 match draw with
 | false=>qJ0 reg P hd nt ops ops.toList st
 | true=>(qEX reg P hd nt ops ops.toList 0 st []).bind fun r=>Out.ask (yU ops r.2) (.ret r.1)
end
section
variable {reg:Reg} {P:Program}
theorem qMU(hd:Hd reg.T)(nt:Nat)(ops:Array Oper):∀(l:List Oper) (st:St reg.T),qJ0 reg P hd nt ops l st=jG P hd nt ops l st
 | [],st=>rfl
 | o::rest,st=>by
  have ih:=qMU hd nt ops rest
  simp only[qJ0,jG,yA,rP,ih]
  rfl
theorem qJ1(hd:Hd reg.T)(nt:Nat)(ops:Array Oper):∀(l:List Oper) (n:Nat) (st:St reg.T) (tr:List iY),qEX reg P hd nt ops l n st tr=jY P hd nt ops l n st tr
 | [],n,st,tr=>rfl
 | o::rest,n,st,tr=>by
  have ih:=qJ1 hd nt ops rest
  simp only[qEX,jY,yA,rP,qDV,mM,ih]
  rfl
theorem qR4{hd:Hd reg.T}{nt:Nat}{ops:Array Oper}{draw:Bool}{st:St reg.T}{Q:St reg.T→Prop}(h:(qPv reg P hd nt ops draw st).K Q):(uZ P hd nt ops draw st).K Q:=by
 cases draw with
 | false=>rw[qPv,qMU] at h;exact h
 | true =>
  simp only[qPv,uZ,qJ1,Out.dP] at h ⊢
  exact Out.fK h fun r hr=>by
   obtain⟨h1,h2⟩:=Out.dZ.1 hr
   exact Out.dZ.2 ⟨qHw h1,h2⟩
end
section
variable (reg:Reg) (P:Program)
def defs:Code→List Nat
 | .region _ ops _=>ops.toList.filterMap (·.dst)
 | .seq a b=>defs a++defs b
 | .cond _ a b=>defs a++defs b
 | .block _ c=>defs c
 | .loop c=>defs c
 | .scope c=>defs c
 | _=>[]
def zCd{T:Nat→Type}{α:Type}(k:St T→DT α)(Q:aU×St T→DT α)(r:aU×St T):DT α:=match r.1 with
 | .normal=>k r.2
 | _=>Q r
def qPw{T:Nat→Type}{α:Type}(id:Nat)(Q:aU×St T→DT α)(r:aU×St T):DT α:=match r.1 with
 | .exit j=>(match Nat.beq j id with | true=>Q (.normal,r.2) | false=>Q r)
 | _=>Q r
def qHx{α:Type}(n0:Nat)(D:List Nat)(ls:List Ld)(st:St reg.T)(k:aU×St reg.T→DT α)(r:aU×St reg.T):DT (Sg reg ls ⊕ α):=match r.1 with
 | .normal=>DT.gB (qJw reg ls r.2) fun st2=>(match xZ reg ls st2 with
  | some (b,s,ρ)=>(match qHt reg n0 D ls st ρ st2 with | true=>qJs b (.ret (.inl s)) | false=>.bad)
  | none=>.bad)
 | .exit id=>(k (.exit id,r.2)).map .inr
 | .ret=>(k (.ret,r.2)).map .inr
def qR5{T:Nat→Type}{α:Type}(body:(aU×St T→DT α)→St T→DT α):Nat→(aU×St T→DT α)→St T→DT α
 | 0,_,_=>.bad
 | n+1,k,st=>body (zCd (qR5 body n k) k) st
abbrev ExR(T:Nat→Type):=Array Oper→Bool→St T→(α:Type)→(St T→DT α)→DT α
def oD(ex:ExR reg.T)(fuel n0:Nat)(L J:Nat→St reg.T→Option (List Ld)):Code→{α:Type}→(aU×St reg.T→DT α)→St reg.T→DT α
 | .skip,_,k,st=>k (.normal,st)
 | .region _ ops draw,_,k,st=>ex ops draw st _ fun st=>k (.normal,st)
 | .seq a b,_,k,st=>(match J (wO b) st with
  | none=>oD ex fuel n0 L J a (zCd (oD ex fuel n0 L J b k) k) st
  | some ls=>(match qIe (defs a) ls with
   | true=>.join (oD ex fuel n0 L J a (qHx reg n0 (defs a) ls st k) st) (fun s=>stS (qId reg (defs a) ls st s) fun st=>oD ex fuel n0 L J b k st)
   | false=>.bad))
 | .cond c a b,_,k,st=>(match c with
  | .tmp t=>(match st.env.get t with
   | some (.d (.bool v))=>.br v (oD ex fuel n0 L J a k (st.fix t true)) (oD ex fuel n0 L J b k (st.fix t false))
   | _=>.bad)
  | _=>.bad)
 | .block id c,_,k,st=>oD ex fuel n0 L J c (qPw id k) st
 | .loop c,_,k,st=>(match L (wO c) st with
  | none=>qR5 (fun k st=>oD ex fuel n0 L J c k st) fuel k st
  | some ls=>(match qIe (defs c) ls with
   | true=>DT.gB (qJw reg ls st) fun st=>stS st fun st=>(match xZ reg ls st with
    | some (b,s0,ρ)=>(match qHt reg n0 (defs c) ls st ρ st with
     | true=>qJs b (.loop s0 fun s=>stS (qId reg (defs c) ls st s) fun st1=>oD ex fuel n0 L J c (qHx reg n0 (defs c) ls st k) st1)
     | false=>.bad)
    | none=>.bad)
   | false=>.bad))
 | .exit id,_,k,st=>k (.exit id,st)
 | .ret,_,k,st=>k (.ret,st)
 | .scope c,_,k,st=>oD ex fuel n0 L J c k st
 | .label _,_,k,st=>k (.normal,st)
 | _,_,_,_=>.bad
def exD(hd:Hd reg.T)(nt:Nat):ExR reg.T:=fun ops draw st _ k=>DT.gB (qPv reg P hd nt ops draw st) k
def awd(hd:Hd reg.T)(nt fuel n0:Nat)(L J:Nat→St reg.T→Option (List Ld))(c:Code){α:Type}(k:aU×St reg.T→DT α)(st:St reg.T):DT α:=oD reg (exD reg P hd nt) fuel n0 L J c k st
def noL{T:Nat→Type}(_:Nat)(_:St T):Option (List Ld):=none
def qPx{α:Type}(hd:Hd reg.T)(fuel:Nat)(L J:Nat→St reg.T→Option (List Ld))(fn:Func)(args:List (V reg.T))(h:Hp reg.T)(k:V reg.T×Hp reg.T→DT α):DT α :=
 match fn.body with
 | none=>.bad
 | some c=>(match Nat.ble args.length fn.ntmps&&Nat.ble fn.ntmps 1000000 with
  | true=>awd reg P hd fn.ntmps fuel h.nx L J c (fun r=>DT.gB ((tX P fn r).bind fun q=>lH reg ⟨h.h,h.nx,[]⟩ (q.1,⟨q.2.h,q.2.nx,List.range h.nx⟩)) k) ⟨jZ args 0 .e,h⟩
  | false=>.bad)
end
section
variable {reg:Reg} {P:Program} {hd:Hd reg.T} {nt:Nat}
def cO(D:List Nat)(st st':St reg.T):Prop:=∀t,kQ D t=false→st'.env.get t=st.env.get t
theorem cO.refl(D:List Nat)(st:St reg.T):cO D st st:=fun _ _=>rfl
theorem cO.trans{D:List Nat}{a b c:St reg.T}(h1:cO D a b)(h2:cO D b c):cO D a c:=fun t ht=>(h2 t ht).trans (h1 t ht)
theorem zCe{D D':List Nat}(h:∀t∈D,t∈D'){t:Nat}(ht:kQ D' t=false):kQ D t=false:=by
 cases hb:kQ D t with
 | false=>rfl
 | true=>rw[gW.2 (h t (gW.1 hb))] at ht;cases ht
theorem cO.sub{D D':List Nat}{a b:St reg.T}(h:cO D a b)(hs:∀t∈D,t∈D'):cO D' a b:=fun t ht=>h t (zCe hs ht)
theorem yV(hnt:nt≤1000000){o:Oper}{l:List Oper}(hd':mY nt o.dst=true)(st:St reg.T)(v:V reg.T):cO ((o::l).filterMap (·.dst)) st (st.put o.dst v):=by
 intro t ht
 cases hdst:o.dst with
 | none=>rfl
 | some d =>
  rw[hdst] at hd'
  have hlt:d<nt:=Nat.le_of_ble_eq_true hd'
  have hok:Tr.ok d=true:=Nat.ble_eq_true_of_le (show d+1≤9223372036854775807 from Nat.le_trans hlt (Nat.le_trans hnt (by decide)))
  show(st.env.set d (some v)).get t=_
  rw[Tr.iN hok,if_neg]
  intro e
  subst e
  have: kQ ((o::l).filterMap (·.dst)) t=true:=gW.2 (by simp[hdst])
  rw[this] at ht;cases ht
theorem yX{o:Oper}{l:List Oper}{a b:St reg.T}(h:cO (l.filterMap (·.dst)) a b):cO ((o::l).filterMap (·.dst)) a b :=
 h.sub fun t ht=>by
  simp only[List.mem_filterMap] at ht ⊢
  obtain⟨x,hx,e⟩:=ht
  exact⟨x,by simp[hx],e⟩
theorem qDY(hnt:nt≤1000000){ops:Array Oper}:∀(rest:List Oper) (st:St reg.T) (Q:St reg.T→Prop),(jG P hd nt ops rest st).K Q→(jG P hd nt ops rest st).K fun st'=>Q st'∧cO (rest.filterMap (·.dst)) st st'
 | [],st,Q,h=>⟨h,cO.refl _ _⟩
 | o::rest,st,Q,h=>by
  simp only[jG] at h ⊢
  cases hdo:mY nt o.dst with
  | false=>rw[hdo] at h;exact h.elim
  | true =>
   rw[hdo] at h
   simp only at h ⊢
   have run:∀st1:St reg.T,cO ((o::rest).filterMap (·.dst)) st st1→((iO P hd o.op (valOf st1.env.get) st1.hp).bind fun r=>Out.ask (Nat.ble st1.hp.nx r.2.nx) (jG P hd nt ops rest (St.put ⟨st1.env,r.2⟩ o.dst r.1))).K Q →
     ((iO P hd o.op (valOf st1.env.get) st1.hp).bind fun r=>Out.ask (Nat.ble st1.hp.nx r.2.nx) (jG P hd nt ops rest (St.put ⟨st1.env,r.2⟩ o.dst r.1))).K fun st'=>Q st'∧cO ((o::rest).filterMap (·.dst)) st st':=by
    intro st1 hk h
    rw[Out.dP] at h ⊢
    refine Out.fK h fun r hr=>?_
    obtain⟨h1,h2⟩:=Out.dZ.1 hr
    refine Out.dZ.2 ⟨h1,Out.fK (qDY hnt rest _ Q h2) fun st' h3=>⟨h3.1,hk.trans ?_⟩⟩
    have h4:cO ((o::rest).filterMap (·.dst)) st1 (St.put ⟨st1.env,r.2⟩ o.dst r.1):=yV (l:=rest) hnt hdo ⟨st1.env,r.2⟩ r.1
    exact h4.trans (yX h3.2)
   have skip:∀st1:St reg.T,cO ((o::rest).filterMap (·.dst)) st st1→(jG P hd nt ops rest (st1.put o.dst .undef)).K Q→(jG P hd nt ops rest (st1.put o.dst .undef)).K fun st'=>Q st'∧cO ((o::rest).filterMap (·.dst)) st st':=by
    intro st1 hk h
    exact Out.fK (qDY hnt rest _ Q h) fun st' h3=>⟨h3.1,(hk.trans (yV (l:=rest) hnt hdo st1 .undef)).trans (yX h3.2)⟩
   split at h
   ·exact run st (cO.refl _ _) h
   ·rename_i j want hg
    split at h
    ·exact h.elim
    ·rename_i d hd'
     split at h
     ·rename_i b hb
      cases b with
      | true =>
       have hf:=St.jF hb
       simp only[Out.K,branch] at h ⊢
       rw[hf] at h ⊢
       cases want with
       | true=>exact run st (cO.refl _ _) h
       | false=>exact skip st (cO.refl _ _) h
      | false =>
       have hf:=St.jF hb
       simp only[Out.K,branch] at h ⊢
       rw[hf] at h ⊢
       cases want with
       | true=>exact skip st (cO.refl _ _) h
       | false=>exact run st (cO.refl _ _) h
     ·exact skip st (cO.refl _ _) h
     ·exact h.elim
theorem qB2(hnt:nt≤1000000){ops:Array Oper}:∀(rest:List Oper) (n:Nat) (st:St reg.T) (tr:List iY) (Q:St reg.T×List iY→Prop),(jY P hd nt ops rest n st tr).K Q→(jY P hd nt ops rest n st tr).K fun r=>Q r∧cO (rest.filterMap (·.dst)) st r.1
 | [],n,st,tr,Q,h=>⟨h,cO.refl _ _⟩
 | o::rest,n,st,tr,Q,h=>by
  simp only[jY] at h ⊢
  cases hdo:mY nt o.dst with
  | false=>rw[hdo] at h;exact h.elim
  | true =>
   rw[hdo] at h
   simp only at h ⊢
   have run:∀st1:St reg.T,cO ((o::rest).filterMap (·.dst)) st st1→((iO P hd o.op (valOf st1.env.get) (lC st1.hp.get st1.hp.nx (fU o.op (valOf st1.env.get) st1.hp.get))).bind fun r =>
      Out.ask (nX (fU o.op (valOf st1.env.get) st1.hp.get) r.2.wr st1.hp.nx r.2.nx) (jY P hd nt ops rest (n+1) (St.put ⟨st1.env,st1.hp.join r.2 (r.2.wr++List.range' st1.hp.nx (r.2.nx-st1.hp.nx))⟩ o.dst r.1) (⟨n,fU o.op (valOf st1.env.get) st1.hp.get,r.2.wr++List.range' st1.hp.nx (r.2.nx-st1.hp.nx),st1.hp.nx,r.2.nx⟩::tr))).K Q →
     ((iO P hd o.op (valOf st1.env.get) (lC st1.hp.get st1.hp.nx (fU o.op (valOf st1.env.get) st1.hp.get))).bind fun r =>
      Out.ask (nX (fU o.op (valOf st1.env.get) st1.hp.get) r.2.wr st1.hp.nx r.2.nx) (jY P hd nt ops rest (n+1) (St.put ⟨st1.env,st1.hp.join r.2 (r.2.wr++List.range' st1.hp.nx (r.2.nx-st1.hp.nx))⟩ o.dst r.1) (⟨n,fU o.op (valOf st1.env.get) st1.hp.get,r.2.wr++List.range' st1.hp.nx (r.2.nx-st1.hp.nx),st1.hp.nx,r.2.nx⟩::tr))).K fun r=>Q r∧cO ((o::rest).filterMap (·.dst)) st r.1:=by
    intro st1 hk h
    rw[Out.dP] at h ⊢
    refine Out.fK h fun r hr=>?_
    obtain⟨h1,h2⟩:=Out.dZ.1 hr
    refine Out.dZ.2 ⟨h1,Out.fK (qB2 hnt rest _ _ _ Q h2) fun st' h3=>⟨h3.1,hk.trans ?_⟩⟩
    have h4:cO ((o::rest).filterMap (·.dst)) st1 (St.put ⟨st1.env,st1.hp.join r.2 (r.2.wr++List.range' st1.hp.nx (r.2.nx-st1.hp.nx))⟩ o.dst r.1):=yV (l:=rest) hnt hdo ⟨st1.env,_⟩ r.1
    exact h4.trans (yX h3.2)
   have skip:∀st1:St reg.T,cO ((o::rest).filterMap (·.dst)) st st1→(jY P hd nt ops rest (n+1) (st1.put o.dst .undef) (⟨n,[],[],st1.hp.nx,st1.hp.nx⟩::tr)).K Q→(jY P hd nt ops rest (n+1) (st1.put o.dst .undef) (⟨n,[],[],st1.hp.nx,st1.hp.nx⟩::tr)).K fun r=>Q r∧cO ((o::rest).filterMap (·.dst)) st r.1:=by
    intro st1 hk h
    exact Out.fK (qB2 hnt rest _ _ _ Q h) fun st' h3=>⟨h3.1,(hk.trans (yV (l:=rest) hnt hdo st1 .undef)).trans (yX h3.2)⟩
   split at h
   ·exact run st (cO.refl _ _) h
   ·rename_i j want hg
    split at h
    ·exact h.elim
    ·rename_i d hd'
     split at h
     ·rename_i b hb
      cases b with
      | true =>
       have hf:=St.jF hb
       simp only[Out.K,branch] at h ⊢
       rw[hf] at h ⊢
       cases want with
       | true=>exact run st (cO.refl _ _) h
       | false=>exact skip st (cO.refl _ _) h
      | false =>
       have hf:=St.jF hb
       simp only[Out.K,branch] at h ⊢
       rw[hf] at h ⊢
       cases want with
       | true=>exact skip st (cO.refl _ _) h
       | false=>exact run st (cO.refl _ _) h
     ·exact skip st (cO.refl _ _) h
     ·exact h.elim
theorem qUL(hnt:nt≤1000000){ops:Array Oper}{draw:Bool}{st:St reg.T}{Q:St reg.T→Prop}(h:(uZ P hd nt ops draw st).K Q):(uZ P hd nt ops draw st).K fun st'=>Q st'∧cO (ops.toList.filterMap (·.dst)) st st':=by
 unfold uZ at h ⊢
 cases draw with
 | false=>exact qDY hnt _ _ _ h
 | true =>
  simp only at h ⊢
  rw[Out.dP] at h ⊢
  refine Out.fK (qB2 hnt _ _ _ _ _ h) fun r hr=>?_
  obtain⟨h1,h2⟩:=Out.dZ.1 hr.1
  exact Out.dZ.2 ⟨h1,h2,hr.2⟩
def pJ{α:Type}(n0:Nat)(F0:Nat→Prop)(φ0:Phi)(H0:Nat→Option (O reg.T))(w0:World)(nt:Nat)(D:List Nat)(st:St reg.T)(k:aU×St reg.T→DT α)(x:α)(e:aU)(a:Act)(w:World):Prop :=
 ∃st',(k (e,st')).G x∧cO D st st'∧Grow st.hp st'.hp∧RA n0 F0 φ0 H0 w0 nt st' a w
def qR6{α:Type}(n0:Nat)(F0:Nat→Prop)(φ0:Phi)(H0:Nat→Option (O reg.T))(w0:World)(nt:Nat)(D:List Nat)(st:St reg.T)(k:aU×St reg.T→DT α)(x:α):Exit→Act→World→Prop
 | .normal,a,w=>pJ n0 F0 φ0 H0 w0 nt D st k x .normal a w
 | .exit id,a,w=>pJ n0 F0 φ0 H0 w0 nt D st k x (.exit id) a w
 | .ret,a,w=>pJ n0 F0 φ0 H0 w0 nt D st k x .ret a w
 | _,_,_=>False
theorem pJ.from{α:Type}{n0:Nat}{F0:Nat→Prop}{φ0:Phi}{H0:Nat→Option (O reg.T)}{w0:World}{D D':List Nat}{st st1:St reg.T}{k:aU×St reg.T→DT α}{x:α}{e:aU}{a:Act}{w:World}(h:pJ n0 F0 φ0 H0 w0 nt D st1 k x e a w)(hs:∀t∈D,t∈D')
  (hk:cO D' st st1) (hg:Grow st.hp st1.hp):pJ n0 F0 φ0 H0 w0 nt D' st k x e a w:=by
 obtain⟨st',h1,h2,h3,h4⟩:=h
 exact⟨st',h1,hk.trans (h2.sub hs),hg.trans h3,h4⟩
theorem RA.lt{n0:Nat}{F0:Nat→Prop}{φ0:Phi}{H0:Nat→Option (O reg.T)}{w0:World}{st:St reg.T}{a:Act}{w:World}(h:RA n0 F0 φ0 H0 w0 nt st a w):∀i o,st.hp.get i=some o→i<st.hp.nx:=by
 obtain⟨N,F,φ,hN,hR,_⟩:=h
 intro i o hi
 exact hN i (hR.heap.lt i o hi)
theorem zCf{st st':St reg.T}{l:List Nat}(h:st'.hp.wr=l++st.hp.wr):qXv reg st st' = l:=by
 unfold qXv
 rw[h,List.length_append,Nat.add_sub_cancel]
 simp
theorem qZI{st _st1 st2:St reg.T}{names:List Nat}(hw:(qXv reg st st2).all (fun i=>Nat.ble st.hp.nx i||kQ names i)=true)(hg:Grow st.hp st2.hp):∀i,i<st.hp.nx→kQ names i=false→st2.hp.get i=st.hp.get i:=by
 obtain⟨g1,l,g2,g3⟩:=hg
 intro i hi hn
 refine g3 i (fun hm=>?_) (by omega)
 rw[zCf g2] at hw
 simp only[List.all_eq_true,Bool.or_eq_true] at hw
 rcases hw i hm with h | h
 ·have: st.hp.nx≤i:=Nat.le_of_ble_eq_true h;omega
 ·rw[hn] at h;cases h
theorem qPy{n0:Nat}{F0:Nat→Prop}{φ0:Phi}{H0:Nat→Option (O reg.T)}{w0:World}{D:List Nat}{ls:List Ld}{st st2:St reg.T}{s:Sg reg ls}{ρ:Rho}{b:Ob}(hs:qIe D ls=true)(hc:qHt reg n0 D ls st ρ st2=true)
  (hr:xZ reg ls st2=some (b,s,ρ)) (hb:okO b=true) (hlt:∀i o,st.hp.get i=some o→i<st.hp.nx) (hK:cO D st st2) (hg:Grow st.hp st2.hp) {a:Act} {w:World} (hR:RA n0 F0 φ0 H0 w0 nt st2 a w):RA n0 F0 φ0 H0 w0 nt (qId reg D ls st s) a w:=by
 refine zJh hs hc hr hb hlt hK ?_ hR
 unfold qHt at hc
 simp only[Bool.and_eq_true] at hc
 exact qZI (_st1:=st) hc.1.1.2 hg
theorem vK{D:List Nat}{ls:List Ld}(hs:qIe D ls=true){st:St reg.T}{s:Sg reg ls}:cO D st (qId reg D ls st s):=fun _ ht=>qZF hs ht
theorem zCg{α:Type}{b:Bool}{t u:DT α}{x:α}:(DT.br b t u).G x↔(b=true→t.G x)∧(b=false→u.G x):=jW _ _ _
theorem qUM{n0:Nat}{F0:Nat→Prop}{φ0:Phi}{H0:Nat→Option (O reg.T)}{w0:World}{D:List Nat}{ls:List Ld}{st st1 st2:St reg.T}(hs:qIe D ls=true)(hf:(qJw reg ls st1).K (·= st2))(hK:cO D st st1)(hg:Grow st.hp st1.hp){a:Act}{w:World}(hR:RA n0 F0 φ0 H0 w0 nt st1 a w) :
  cO D st st2∧Grow st.hp st2.hp∧RA n0 F0 φ0 H0 w0 nt st2 a w:=by
 obtain⟨h1,h2,h3⟩:=qCK hs
 obtain⟨f1,f2⟩:=zCa (nt:=nt) (fun t ht=>h1 _ (h2 _ ht)) hf
 obtain⟨f3,f4⟩:=f2 hR
 refine⟨hK.trans fun t ht=>f1 t fun hm=>?_,hg.trans f3,f4⟩
 have:= gW.2 (h2 _ hm)
 rw[this] at ht;cases ht
def zI3{α:Type}(n0:Nat)(F0:Nat→Prop)(φ0:Phi)(H0:Nat→Option (O reg.T))(w0:World)(nt:Nat)(D:List Nat)(st:St reg.T)(k:St reg.T→DT α)(x:α):Exit→Act→World→Prop
 | .normal,a,w=>∃st',(k st').G x∧cO D st st'∧Grow st.hp st'.hp∧RA n0 F0 φ0 H0 w0 nt st' a w
 | _,_,_=>False
def qEY(P:Program)(nt:Nat)(ex:ExR reg.T):Prop:=∀id ops draw st (α:Type) (k:St reg.T→DT α) (x:α),(ex ops draw st α k).G x→∀{n0:Nat} {F0:Nat→Prop} {φ0:Phi} {H0:Nat→Option (O reg.T)} {w0:World} {a:Act} {w:World},RA n0 F0 φ0 H0 w0 nt st a w →
 (Code.region id ops draw).wp P (zI3 n0 F0 φ0 H0 w0 nt (ops.toList.filterMap (·.dst)) st k x) a w
theorem qB3(hm:P.follows .mixedOrders=true)(hHd:bJ P hd)(hnt:nt≤1000000){ex:ExR reg.T}(hex:∀ops draw st (α:Type) (k:St reg.T→DT α) (x:α),(ex ops draw st α k).G x→(uZ P hd nt ops draw st).K fun st=>(k st).G x):qEY P nt ex:=by
 intro id ops draw st α k x h n0 F0 φ0 H0 w0 a w hR
 obtain⟨N,F,φ,hN,hR,hG⟩:=hR
 have h:=qUL hnt (hex _ _ _ _ _ _ h)
 exact qRr hm hHd hnt h hR (fun st' _=>qZC hN _) (fun st' N' F' φ' a' w' hq hR' hG'=>⟨st',hq.1,hq.2,hG'.grow,RA.go hN hG hR' hG'⟩)
theorem vL{ex:ExR reg.T}(hreg:qEY P nt ex){fuel:Nat}{L J:Nat→St reg.T→Option (List Ld)}{n0:Nat}{F0:Nat→Prop}{φ0:Phi}{H0:Nat→Option (O reg.T)}{w0:World}:∀(c:Code) {α:Type} (k:aU×St reg.T→DT α) (st:St reg.T) (x:α),(oD reg ex fuel n0 L J c k st).G x →
  ∀{a:Act} {w:World},RA n0 F0 φ0 H0 w0 nt st a w→c.wp P (qR6 n0 F0 φ0 H0 w0 nt (defs c) st k x) a w:=by
 intro c
 induction c with
 | skip=>intro α k st x h a w hR;exact wp_skip ⟨st,h,cO.refl _ _,Grow.refl _,hR⟩
 | region id ops draw =>
  intro α k st x h a w hR
  refine wp_mono (hreg id ops draw st _ _ x h hR) fun e a' w' he=>?_
  cases e with
  | normal =>
   obtain⟨st',h1,h2,h3,h4⟩:=he
   exact⟨st',h1,h2,h3,h4⟩
  | exit id=>exact he.elim
  | ret=>exact he.elim
  | goto l=>exact he.elim
  | panic c=>exact he.elim
  | outgrown=>exact he.elim
 | seq c1 c2 ih1 ih2 =>
  intro α k st x h a w hR
  simp only[oD] at h
  have s1:∀t∈defs c1,t∈defs (.seq c1 c2):=fun t ht=>by simp[defs,ht]
  have s2:∀t∈defs c2,t∈defs (.seq c1 c2):=fun t ht=>by simp[defs,ht]
  split at h
  ·refine wp_seq (wp_mono (ih1 _ st x h hR) fun e a' w' he=>?_)
   cases e with
   | normal =>
    obtain⟨st',h1,h2,h3,h4⟩:=he
    refine wp_mono (ih2 k st' x h1 h4) fun e a' w' he=>?_
    cases e with
    | normal=>exact pJ.from he s2 (h2.sub s1) h3
    | exit id=>exact pJ.from he s2 (h2.sub s1) h3
    | ret=>exact pJ.from he s2 (h2.sub s1) h3
    | goto l=>exact he
    | panic c=>exact he
    | outgrown=>exact he
   | exit id=>exact pJ.from he s1 (cO.refl _ _) (Grow.refl _)
   | ret=>exact pJ.from he s1 (cO.refl _ _) (Grow.refl _)
   | goto l=>exact he
   | panic c=>exact he
   | outgrown=>exact he
  ·rename_i ls _
   split at h
   ·rename_i hs
    obtain⟨y,h1,h2⟩:=DT.lK.1 h
    refine wp_seq (wp_mono (ih1 _ st y h1 hR) fun e a' w' he=>?_)
    have out:∀e,(e=.ret∨∃id,e=.exit id)→pJ n0 F0 φ0 H0 w0 nt (defs c1) st (qHx reg n0 (defs c1) ls st k) y e a' w'→pJ n0 F0 φ0 H0 w0 nt (defs (.seq c1 c2)) st k x e a' w':=by
     rintro e hee ⟨st',h3,h4,h5,h6⟩
     have h7:((k (e,st')).map (Sum.inr:α→Sg reg ls ⊕ α)).G y:=by
      rcases hee with rfl | ⟨id,rfl⟩<;>exact h3
     obtain⟨x',h8,h9⟩:=DT.qMO _ _ (fun _ _ h=>Sum.inr.inj h) _ h7
     subst h9
     have h2:x' = x:=h2
     subst h2
     exact⟨st',h8,h4.sub s1,h5,h6⟩
    cases e with
    | normal =>
     obtain⟨st',h3,h4,h5,h6⟩:=he
     simp only[qHx] at h3
     obtain⟨st2,hf,h3⟩:=(Out.gH _ _).1 (DT.kD h3)
     obtain⟨h4,h5,h6⟩:=qUM hs hf h4 h5 h6
     split at h3
     ·rename_i b s ρ hr
      split at h3
      ·rename_i hc
       obtain⟨hb,h3⟩:=qAx h3
       have h3:(Sum.inl s:Sg reg ls ⊕ α)=y:=h3
       subst h3
       have h2:(stS (qId reg (defs c1) ls st s) fun st=>oD reg ex fuel n0 L J c2 k st).G x:=h2
       rw[qJr] at h2
       have hRA:=qPy hs hc hr hb hR.lt h4 h5 h6
       refine wp_mono (ih2 k _ x h2 hRA) fun e a' w' he=>?_
       cases e with
       | normal=>exact pJ.from he s2 ((vK hs).sub s1) (yT hs)
       | exit id=>exact pJ.from he s2 ((vK hs).sub s1) (yT hs)
       | ret=>exact pJ.from he s2 ((vK hs).sub s1) (yT hs)
       | goto l=>exact he
       | panic c=>exact he
       | outgrown=>exact he
      ·exact h3.elim
     ·exact h3.elim
    | exit id=>exact out _ (.inr ⟨id,rfl⟩) he
    | ret=>exact out _ (.inl rfl) he
    | goto l=>exact he
    | panic c=>exact he
    | outgrown=>exact he
   ·exact h.elim
 | cond o c1 c2 ih1 ih2 =>
  intro α k st x h a w hR
  simp only[oD] at h
  have s1:∀t∈defs c1,t∈defs (.cond o c1 c2):=fun t ht=>by simp[defs,ht]
  have s2:∀t∈defs c2,t∈defs (.cond o c1 c2):=fun t ht=>by simp[defs,ht]
  have up:∀{D:List Nat} {e:Exit} {a:Act} {w:World},(∀t∈D,t∈defs (.cond o c1 c2))→qR6 n0 F0 φ0 H0 w0 nt D st k x e a w→qR6 n0 F0 φ0 H0 w0 nt (defs (.cond o c1 c2)) st k x e a w:=by
   intro D e a w hs he
   cases e with
   | normal=>exact pJ.from he hs (cO.refl _ _) (Grow.refl _)
   | exit id=>exact pJ.from he hs (cO.refl _ _) (Grow.refl _)
   | ret=>exact pJ.from he hs (cO.refl _ _) (Grow.refl _)
   | goto l=>exact he
   | panic c=>exact he
   | outgrown=>exact he
  split at h
  ·rename_i t
   split at h
   ·rename_i v hv
    have hR':=hR
    obtain⟨N,F,φ,hN,hR',hG⟩:=hR'
    have he:a.eval (.tmp t)=.bool v:=(uM hR' (x:=.tmp t) hv).kI
    cases v with
    | true =>
     have h:=(zCg.1 h).1 rfl
     rw[St.jF hv] at h
     exact wp_cond_true he (wp_mono (ih1 k st x h hR) fun e a' w' he=>up s1 he)
    | false =>
     have h:=(zCg.1 h).2 rfl
     rw[St.jF hv] at h
     exact wp_cond_false he (wp_mono (ih2 k st x h hR) fun e a' w' he=>up s2 he)
   ·exact h.elim
  ·exact h.elim
 | block id c ih =>
  intro α k st x h a w hR
  refine wp_block (wp_mono (ih _ st x h hR) fun e a' w' he=>?_)
  cases e with
  | normal=>exact he
  | exit j =>
   obtain⟨st',h1,h2⟩:=he
   simp only[qPw] at h1
   cases hb:Nat.beq j id with
   | true =>
    rw[hb] at h1
    have: j=id:=Nat.eq_of_beq_eq_true hb
    simp only[Exit.inBlock,this,if_true]
    exact⟨st',h1,h2⟩
   | false =>
    rw[hb] at h1
    have: j≠id:=fun e=>by subst e;simp[Nat.beq_refl] at hb
    simp only[Exit.inBlock,this,if_false]
    exact⟨st',h1,h2⟩
  | ret=>exact he
  | goto l=>exact he
  | panic c=>exact he
  | outgrown=>exact he
 | exit id=>intro α k st x h a w hR;exact wp_exit ⟨st,h,cO.refl _ _,Grow.refl _,hR⟩
 | ret=>intro α k st x h a w hR;exact wp_ret ⟨st,h,cO.refl _ _,Grow.refl _,hR⟩
 | loop c ih =>
  intro α k st x h a w hR
  simp only[oD] at h
  split at h
  ·refine wp_loop_ghost (fun n a w=>∃st1,(qR5 (fun k st=>oD reg ex fuel n0 L J c k st) n k st1).G x∧cO (defs c) st st1∧Grow st.hp st1.hp∧RA n0 F0 φ0 H0 w0 nt st1 a w) fuel ⟨st,h,cO.refl _ _,Grow.refl _,hR⟩ ?_
   rintro n a w ⟨st1,h1,h2,h3,h4⟩
   cases n with
   | zero=>exact h1.elim
   | succ n =>
    simp only[qR5] at h1
    refine wp_mono (ih _ st1 x h1 h4) fun e a' w' he=>?_
    cases e with
    | normal =>
     obtain⟨st',g1,g2,g3,g4⟩:=he
     exact⟨n,Nat.lt_succ_self n,st',g1,h2.trans g2,h3.trans g3,g4⟩
    | exit id=>exact pJ.from he (fun _ h=>h) h2 h3
    | ret=>exact pJ.from he (fun _ h=>h) h2 h3
    | goto l=>exact he
    | panic c=>exact he
    | outgrown=>exact he
  ·rename_i ls _
   split at h
   ·rename_i hs
    obtain⟨stf,hf,h⟩:=(Out.gH _ _).1 (DT.kD h)
    rw[qJr] at h
    obtain⟨kf,gf,hR⟩:=qUM hs hf (cO.refl (defs c) st) (Grow.refl _) hR
    refine wp_mono (?_:(Code.loop c).wp P (qR6 n0 F0 φ0 H0 w0 nt (defs (.loop c)) stf k x) a w) fun e a' w' he=>(by
     cases e with
     | normal=>exact pJ.from he (fun _ h=>h) kf gf
     | exit id=>exact pJ.from he (fun _ h=>h) kf gf
     | ret=>exact pJ.from he (fun _ h=>h) kf gf
     | goto l=>exact he
     | panic c=>exact he
     | outgrown=>exact he)
    clear kf gf hf
    generalize stf=st at h hR ⊢
    split at h
    ·rename_i b s0 ρ hr
     split at h
     ·rename_i hc
      obtain⟨hb,h⟩:=qAx h
      obtain⟨n,hn⟩:=DT.qN.1 h
      have h0:=qPy hs hc hr hb hR.lt (cO.refl _ _) (Grow.refl _) hR
      refine wp_loop_ghost (fun n a w=>∃s,DT.qAw (fun s y=>(stS (qId reg (defs c) ls st s) fun st1=>oD reg ex fuel n0 L J c (qHx reg n0 (defs c) ls st k) st1).G y) n s x∧RA n0 F0 φ0 H0 w0 nt (qId reg (defs c) ls st s) a w) n ⟨s0,hn,h0⟩ ?_
      rintro n a w ⟨s,h1,h2⟩
      cases n with
      | zero=>exact h1.elim
      | succ n =>
       obtain⟨y,h3,h4⟩:=h1
       simp only[qJr] at h3
       refine wp_mono (ih _ _ y h3 h2) fun e a' w' he=>?_
       have out:∀e,(e=.ret∨∃id,e=.exit id)→pJ n0 F0 φ0 H0 w0 nt (defs c) (qId reg (defs c) ls st s) (qHx reg n0 (defs c) ls st k) y e a' w'→pJ n0 F0 φ0 H0 w0 nt (defs c) st k x e a' w':=by
        rintro e hee ⟨st',g3,g4,g5,g6⟩
        have h7:((k (e,st')).map (Sum.inr:α→Sg reg ls ⊕ α)).G y:=by
         rcases hee with rfl | ⟨id,rfl⟩<;>exact g3
        obtain⟨x',h8,h9⟩:=DT.qMO _ _ (fun _ _ h=>Sum.inr.inj h) _ h7
        subst h9
        have h4:x' = x:=h4
        subst h4
        exact⟨st',h8,(vK hs).trans g4,(yT hs).trans g5,g6⟩
       cases e with
       | normal =>
        obtain⟨st',g3,g4,g5,g6⟩:=he
        simp only[qHx] at g3
        obtain⟨st2,hf,g3⟩:=(Out.gH _ _).1 (DT.kD g3)
        obtain⟨g4,g5,g6⟩:=qUM hs hf g4 g5 g6
        split at g3
        ·rename_i b' s' ρ' hr'
         split at g3
         ·rename_i hc'
          obtain⟨hb',g3⟩:=qAx g3
          have g3:(Sum.inl s':Sg reg ls ⊕ α)=y:=g3
          subst g3
          exact⟨n,Nat.lt_succ_self n,s',h4,qPy hs hc' hr' hb' hR.lt ((vK hs).trans g4) ((yT hs).trans g5) g6⟩
         ·exact g3.elim
        ·exact g3.elim
       | exit id=>exact out _ (.inr ⟨id,rfl⟩) he
       | ret=>exact out _ (.inl rfl) he
       | goto l=>exact he
       | panic c=>exact he
       | outgrown=>exact he
     ·exact h.elim
    ·exact h.elim
   ·exact h.elim
 | rangeFunc f ps c1 c2 _ _=>intro α k st x h;exact h.elim
 | scope c ih =>
  intro α k st x h a w hR
  refine wp_scope_straight (wp_mono (ih k st x h hR) fun e a' w' he=>?_)
  cases e with
  | goto l=>exact he.elim
  | _=>exact he
 | label l=>intro α k st x h a w hR;exact wp_label ⟨st,h,cO.refl _ _,Grow.refl _,hR⟩
 | goto l=>intro α k st x h;exact h.elim
 | refuse s=>intro α k st x h;exact h.elim
theorem qZJ(hm:P.follows .mixedOrders=true)(hHd:bJ P hd)(hnt:nt≤1000000){fuel:Nat}{L J:Nat→St reg.T→Option (List Ld)}{n0:Nat}{F0:Nat→Prop}{φ0:Phi}{H0:Nat→Option (O reg.T)}{w0:World}(c:Code){α:Type}(k:aU×St reg.T→DT α)(st:St reg.T)(x:α)(h:(awd reg P hd nt fuel n0 L J c k st).G x)
  {a:Act} {w:World} (hR:RA n0 F0 φ0 H0 w0 nt st a w):c.wp P (qR6 n0 F0 φ0 H0 w0 nt (defs c) st k x) a w :=
 vL (qB3 hm hHd hnt (fun _ _ _ _ _ _ h=>qR4 (DT.kD h))) c k st x h hR
end
end Go.W
