/- Part of the proof: texts DT DU. No conditions. -/
import Derived.Test.YtlmkakccmpncjaaGreatDoorVe
set_option linter.all false
namespace Go.W
open Go Go.RowKit
inductive DT:Type→Type 1
 | ret {α:Type} (a:α):DT α
 | need {α:Type} (b:Bool) (t:DT α):DT α
 | br {α:Type} (b:Bool) (x y:DT α):DT α
 | both {α:Type} (x y:DT α):DT α
 | bad {α:Type}:DT α
 | loop {α σ:Type} (s:σ) (body:σ→DT (σ ⊕ α)):DT α
 | join {α σ:Type} (t:DT (σ ⊕ α)) (k:σ→DT α):DT α
namespace DT
def map:{α:Type}→DT α→{β:Type}→(α→β)→DT β
 | _,.ret a,_,f=>.ret (f a)
 | _,.need b t,_,f=>.need b (t.map f)
 | _,.br b x y,_,f=>.br b (x.map f) (y.map f)
 | _,.both x y,_,f=>.both (x.map f) (y.map f)
 | _,.bad,_,_=>.bad
 | _,.loop s body,_,f=>.loop s fun s=>(body s).map (Sum.map id f)
 | _,.join t k,_,f=>.join (t.map (Sum.map id f)) fun s=>(k s).map f
 termination_by structural _ t=>t
def zMd{σ α:Type}(P:σ→Prop)(x:α):σ ⊕ α→Prop
 | .inl s=>P s
 | .inr a=>a=x
def yO{σ α:Type}(B:σ→σ ⊕ α→Prop):Nat→σ→α→Prop
 | 0,_,_=>False
 | n+1,s,x=>∃y,B s y∧zMd (fun s'=>yO B n s' x) x y
def G:{α:Type}→DT α→α→Prop
 | _,.ret a,x=>a=x
 | _,.need b t,x=>must b (t.G x)
 | _,.br b t u,x=>branch b (t.G x) (u.G x)
 | _,.both t u,x=>t.G x∧u.G x
 | _,.bad,_=>False
 | _,.loop s body,x=>∃n,yO (fun s y=>(body s).G y) n s x
 | _,.join t k,x=>∃y,t.G y∧zMd (fun s=>(k s).G x) x y
 termination_by structural _ t=>t
theorem lG{α σ:Type}{t:DT (σ ⊕ α)}{k:σ→DT α}{x:α}:(DT.join t k).G x↔∃y,t.G y∧zMd (fun s=>(k s).G x) x y:=Iff.rfl
theorem pF{α σ:Type}{s:σ}{body:σ→DT (σ ⊕ α)}{x:α}:(DT.loop s body).G x↔∃n,yO (fun s y=>(body s).G y) n s x:=Iff.rfl
theorem qX4{σ α β:Type}{f:α→β}(hf:∀a b,f a=f b→a=b):∀a b:σ ⊕ α,Sum.map id f a=Sum.map id f b→a=b:=by
 intro a b h
 cases a<;>cases b<;>simp only[Sum.map_inl,Sum.map_inr,id,Sum.inl.injEq,Sum.inr.injEq,reduceCtorEq] at h
 ·rw[h]
 ·rw[hf _ _ h]
theorem qM7:∀{α:Type} (t:DT α) {β:Type} (f:α→β) (hf:∀a b,f a=f b→a=b) (y:β),(t.map f).G y→∃x,t.G x∧f x=y:=by
 intro α t
 induction t with
 | ret a=>intro β f hf y h;exact⟨a,rfl,h⟩
 | need b t ih =>
  intro β f hf y h
  obtain⟨h0,h⟩:=(bD _ _).1 h
  obtain⟨x,h1,h2⟩:=ih f hf y h
  exact⟨x,(bD _ _).2 ⟨h0,h1⟩,h2⟩
 | br b t u iht ihu =>
  intro β f hf y h
  cases b with
  | true=>obtain⟨x,h1,h2⟩:=iht f hf y h;exact⟨x,h1,h2⟩
  | false=>obtain⟨x,h1,h2⟩:=ihu f hf y h;exact⟨x,h1,h2⟩
 | both t u iht ihu =>
  intro β f hf y h
  obtain⟨x,h1,h2⟩:=iht f hf y h.1
  obtain⟨x',h3,h4⟩:=ihu f hf y h.2
  have:= hf _ _ (h2.trans h4.symm)
  subst this
  exact⟨x,⟨h1,h3⟩,h2⟩
 | bad=>intro β f hf y h;exact h.elim
 | loop s body ih =>
  intro β f hf y h
  obtain⟨n,h⟩:=h
  have key:∀(n:Nat) s,yO (fun s y=>((body s).map (Sum.map id f)).G y) n s y→∃x,yO (fun s y=>(body s).G y) n s x∧f x=y:=by
   intro n
   induction n with
   | zero=>intro s h;exact h.elim
   | succ n ihn =>
    intro s ⟨z,h1,h2⟩
    obtain⟨z',h3,h4⟩:=ih s _ (qX4 hf) z h1
    cases z' with
    | inl s' =>
     cases h4
     obtain⟨x,h5,h6⟩:=ihn s' h2
     exact⟨x,⟨.inl s',h3,h5⟩,h6⟩
    | inr a =>
     cases h4
     exact⟨a,⟨.inr a,h3,rfl⟩,h2⟩
  obtain⟨x,h1,h2⟩:=key n s h
  exact⟨x,pF.2 ⟨n,h1⟩,h2⟩
 | join t k iht ihk =>
  intro β f hf y h
  obtain⟨z,h1,h2⟩:=h
  obtain⟨z',h3,h4⟩:=iht _ (qX4 hf) z h1
  cases z' with
  | inl s =>
   cases h4
   obtain⟨x,h5,h6⟩:=ihk s f hf y h2
   exact⟨x,lG.2 ⟨.inl s,h3,h5⟩,h6⟩
  | inr a =>
   cases h4
   exact⟨a,lG.2 ⟨.inr a,h3,rfl⟩,h2⟩
def dU{α β:Type}:Out α→(α→DT β)→DT β
 | .ret a,k=>k a
 | .need b o,k=>.need b (dU o k)
 | .br b x y,k=>.br b (dU x k) (dU y k)
 | .bad,_=>.bad
theorem iE{α β:Type}{o:Out α}{k:α→DT β}{x:β}:(dU o k).G x→o.K fun a=>(k a).G x:=by
 induction o with
 | ret a=>exact id
 | need b o ih=>intro h;obtain⟨h0,h⟩:=(bD _ _).1 h;exact(bD _ _).2 ⟨h0,ih h⟩
 | br b u v ihu ihv =>
  intro h
  cases b with
  | true=>exact ihu h
  | false=>exact ihv h
 | bad=>exact id
end DT
section
universe u
variable {T:Nat→Type} {β:Sort u}
def qJ7(n:Nat)(k:Nat→β):β:=match n with
 | 0=>k 0
 | m+1=>k (m+1)
theorem lU(n:Nat)(k:Nat→β):qJ7 n k=k n:=by cases n<;>rfl
def dS(x:D T)(k:D T→β):β:=match x with
 | .bool b=>k (.bool b)
 | .int i n=>k (.int i n)
 | .str s=>k (.str s)
 | .nilp=>k .nilp
 | .nilm=>k .nilm
 | .nilf=>k .nilf
 | .nili=>k .nili
 | .nils=>k .nils
 | .sl e xs=>k (.sl e xs)
 | .usl i xs=>k (.usl i xs)
theorem zOw(x:D T)(k:D T→β):dS x k=k x:=by cases x<;>rfl
def zOx(c:Cap)(k:Cap→β):β:=match c with
 | .exact n=>k (.exact n)
 | .least n=>k (.least n)
theorem zIM(x:Cap)(k:Cap→β):zOx x k=k x:=by cases x<;>rfl
def vS{β:Sort u}:V T→(V T→β)→β
 | .d x,k=>dS x fun x=>k (.d x)
 | .ptr i r o,k=>qJ7 i fun i=>k (.ptr i r o)
 | .fp row o,k=>k (.fp row o)
 | .sl i off len cap,k=>qJ7 i fun i=>zOx cap fun cap=>k (.sl i off len cap)
 | .mp i,k=>qJ7 i fun i=>k (.mp i)
 | .it i,k=>qJ7 i fun i=>k (.it i)
 | .fn f vs us,k=>goL vs fun vs=>goL us fun us=>k (.fn f vs us)
 | .ifc t v,k=>vS v fun v=>k (.ifc t v)
 | .agg vs,k=>goL vs fun vs=>k (.agg vs)
 | .tup vs,k=>goL vs fun vs=>k (.tup vs)
 | .undef,k=>k .undef
 | .any,k=>k .any
where goL {β:Sort u}:List (V T)→(List (V T)→β)→β
 | [],k=>k []
 | v::vs,k=>vS v fun v=>goL vs fun vs=>k (v::vs)
theorem qFo:∀(v:V T) (k:V T→β),vS v k=k v:=by
 have key:∀(n:Nat) (v:V T),SizeOf.sizeOf v<n→∀{β:Sort u} (k:V T→β),vS v k=k v:=by
  intro n
  induction n with
  | zero=>intro v h;omega
  | succ n ih =>
   have goL:∀vs:List (V T),SizeOf.sizeOf vs<n+1→∀{β:Sort u} (k:List (V T)→β),vS.goL vs k=k vs:=by
    intro vs
    induction vs with
    | nil=>intro _ β k;rfl
    | cons v vs ihv =>
     intro hs β k
     simp only[qy] at hs
     simp only[vS.goL]
     rw[ih v (by omega),ihv (by omega)]
   intro v hv β k
   cases v<;>simp only[vS]
   case d x=>rw[zOw]
   case ptr i r o=>rw[lU]
   case sl i off len cap=>rw[lU,zIM]
   case mp i=>rw[lU]
   case it i=>rw[lU]
   case fn f vs us=>simp only[V.fn.sizeOf_spec] at hv;rw[goL vs (by omega),goL us (by omega)]
   case ifc t v=>simp only[V.ifc.sizeOf_spec] at hv;rw[ih v (by omega)]
   case agg vs=>simp only[V.agg.sizeOf_spec] at hv;rw[goL vs (by omega)]
   case tup vs=>simp only[V.tup.sizeOf_spec] at hv;rw[goL vs (by omega)]
 intro v k
 exact key (SizeOf.sizeOf v+1) v (by omega) k
theorem qX5:∀(vs:List (V T)) (k:List (V T)→β),vS.goL vs k=k vs
 | [],k=>rfl
 | v::vs,k=>by simp only[vS.goL];rw[qFo,qX5 vs]
def qX6{β:Sort u}:List (List (V T))→(List (List (V T))→β)→β
 | [],k=>k []
 | r::rs,k=>vS.goL r fun r=>qX6 rs fun rs=>k (r::rs)
theorem qQJ:∀(rs:List (List (V T))) (k:List (List (V T))→β),qX6 rs k=k rs
 | [],k=>rfl
 | r::rs,k=>by simp only[qX6];rw[qX5,qQJ rs]
def oS:O T→(O T→β)→β
 | .rows n xs,k=>qX6 xs fun xs=>k (.rows n xs)
 | .trows e xs,k=>k (.trows e xs)
 | .map c es,k=>k (.map c es)
 | .sit s p,k=>k (.sit s p)
 | .mit m a b c,k=>k (.mit m a b c)
theorem qM8(o:O T)(k:O T→β):oS o k=k o:=by cases o<;>simp only[oS];rw[qQJ]
def zMe{α:Type}(f:α→(α→β)→β):Option α→(Option α→β)→β
 | none,k=>k none
 | some x,k=>f x fun x=>k (some x)
def trS{α:Type}(f:α→(α→β)→β):Tr α→(Tr α→β)→β
 | .e,k=>k .e
 | .n l v r,k=>trS f l fun l=>zMe f v fun v=>trS f r fun r=>k (.n l v r)
theorem zIN{α:Type}{f:α→(α→β)→β}(hf:∀x k,f x k=k x)(x:Option α)(k:Option α→β):zMe f x k=k x:=by cases x<;>simp only[zMe];rw[hf]
theorem nU{α:Type}{f:α→(α→β)→β}(hf:∀x k,f x k=k x):∀(t:Tr α) (k:Tr α→β),trS f t k=k t
 | .e,k=>rfl
 | .n l v r,k=>by simp only[trS];rw[nU hf l,zIN hf,nU hf r]
def lnS{β:Sort u}:List Nat→(List Nat→β)→β
 | [],k=>k []
 | n::l,k=>qJ7 n fun n=>lnS l fun l=>k (n::l)
theorem qEo:∀(l:List Nat) (k:List Nat→β),lnS l k=k l
 | [],k=>rfl
 | n::l,k=>by simp only[lnS];rw[lU,qEo l]
def stS(st:St T)(k:St T→β):β:=trS vS st.env fun env=>trS oS st.hp.h fun h=>qJ7 st.hp.nx fun n=>lnS st.hp.wr fun wr=>k ⟨env,⟨h,n,wr⟩⟩
theorem qJ8(st:St T)(k:St T→β):stS st k=k st:=by
 unfold stS
 rw[nU qFo,nU qM8,lU,qEo]
end
inductive CD where
 | str (s:List UInt8)
 | nils
inductive Kd where
 | cst (c:CD)
 | int (k:IntKind)
 | bool
 | str
 | dat (e:Nat)
 | own (m e:Nat) (cut:Bool)
 | rcd (e:Nat)
inductive Ld where
 | slot (t:Nat) (k:Kd)
 | obj (i:Nat) (ks:List Kd)
 | rows (i e:Nat)
 | ptr (t m:Nat) (ks:List Kd)
 | sit (i:Nat)
 | gone (i:Nat)
def isRec:Kd→Bool
 | .rcd _=>true
 | _=>false
def Kd.names:Kd→List Nat
 | .own m _ _=>[m]
 | _=>[]
def Ld.names:Ld→List Nat
 | .slot _ k=>k.names
 | .obj i ks=>i::ks.flatMap Kd.names
 | .rows i _=>[i]
 | .ptr _ m ks=>m::ks.flatMap Kd.names
 | .sit i=>[i]
 | .gone i=>[i]
def Ld.slots:Ld→List Nat
 | .slot t _=>[t]
 | .obj _ _=>[]
 | .rows _ _=>[]
 | .ptr t _ _=>[t]
 | .sit _=>[]
 | .gone _=>[]
abbrev Rho:=List (Nat×Option Nat)
abbrev Ob:=Option Bool
def okO:Ob→Bool
 | none=>true
 | some b=>b
def qUA:Ob→Ob→Ob
 | none,b=>b
 | some a,none=>some a
 | some a,some b=>some (a&&b)
theorem qFp{a b:Ob}(h:okO (qUA a b)=true):okO a=true∧okO b=true:=by
 cases a<;>cases b<;>simp_all [qUA,okO]
def qFq{α:Type}(b:Ob)(t:DT α):DT α:=match b with
 | none=>t
 | some b=>.need b t
theorem uR{α:Type}{b:Ob}{t:DT α}{x:α}(h:(qFq b t).G x):okO b=true∧t.G x:=by
 cases b with
 | none=>exact⟨rfl,h⟩
 | some b=>exact(bD _ _).1 h
section
variable (reg:Reg)
def CD.enc{T:Nat→Type}:CD→D T
 | .str s=>.str s
 | .nils=>.nils
def CD.is{T:Nat→Type}:CD→D T→Bool
 | .str s,.str t=>s==t
 | .nils,.nils=>true
 | _,_=>false
def Kd.T:Kd→Type
 | .cst _=>Unit
 | .int _=>Int
 | .bool=>Bool
 | .str=>List UInt8
 | .dat e=>List (reg.T e)
 | .own _ e _=>List (reg.T e)
 | .rcd e=>reg.T e
def Kd.enc:(k:Kd)→k.T reg→List (V reg.T)
 | .cst c,_=>[.d c.enc]
 | .int k,x=>[.d (.int k x)]
 | .bool,x=>[.d (.bool x)]
 | .str,x=>[.d (.str x)]
 | .dat e,x=>[.d (.sl e x)]
 | .own m _ _,x=>[.sl m 0 (List.length x) (.least 0)]
 | .rcd e,x=>(reg.enc e x).map .d
def kR(k:Kd)(o:Option Nat)(l:Rho):Rho:=match k with
 | .own m _ _=>(m,o)::l
 | _=>l
def Kd.read(k:Kd)(cs:List (V reg.T))(g:Nat→Option (O reg.T)):Option (Ob×k.T reg×Option Nat):=match k with
 | .cst c=>(match cs with
  | [.d x]=>(match c.is x with | true=>some (none,(),none) | false=>none)
  | _=>none)
 | .int k=>(match cs with
  | [.d (.int k' n)]=>(match sameKind k k' with | true=>some (none,n,none) | false=>none)
  | _=>none)
 | .bool=>(match cs with
  | [.d (.bool b)]=>some (none,b,none)
  | _=>none)
 | .str=>(match cs with
  | [.d (.str s)]=>some (none,s,none)
  | _=>none)
 | .dat e=>(match cs with
  | [.d (.sl e' xs)]=>(match qBx xs e with | some ys=>some (none,ys,none) | none=>none)
  | [.d .nils]=>some (none,[],none)
  | _=>none)
 | .own _ e cut=>(match cs with
  | [.d .nils]=>some (none,[],none)
  | [.sl j 0 len _]=>(match g j with
   | some (.trows e' xs)=>(match qBx xs e with
    | some ys=>(match cut with
     | true=>some (some (Nat.ble len ys.length),ys.take len,some j)
     | false=>some (some (Nat.beq len ys.length),ys,some j))
    | none=>none)
   | _=>none)
  | _=>none)
 | .rcd e=>(match gU cs with | some l=>(match reg.dec e l with | some x=>some (none,x,none) | none=>none) | none=>none)
def Cs:List Kd→Type
 | []=>Unit
 | k::ks=>k.T reg×Cs ks
def Ld.T:Ld→Type
 | .slot _ k=>k.T reg
 | .obj _ ks=>Cs reg ks
 | .rows _ e=>List (reg.T e)
 | .ptr _ _ ks=>Cs reg ks
 | .sit _=>List UInt8×Nat×Unit
 | .gone _=>Unit
def Sg:List Ld→Type
 | []=>Unit
 | l::ls=>l.T reg×Sg ls
def Cs.enc:(ks:List Kd)→Cs reg ks→List (V reg.T)
 | [],_=>[]
 | k::ks,x=>k.enc reg x.1++Cs.enc ks x.2
def Kd.bH(k:Kd)(x:k.T reg):List (Nat×O reg.T):=match k,x with
 | .own m e _,x=>[(m,.trows e x)]
 | _,_=>[]
def Cs.bH:(ks:List Kd)→Cs reg ks→List (Nat×O reg.T)
 | [],_=>[]
 | k::ks,x=>k.bH reg x.1++Cs.bH ks x.2
def qJ9(k:Kd)(x:k.T reg):V reg.T:=match isRec k with
 | true=>.agg (k.enc reg x)
 | false=>(k.enc reg x).headD .any
def Ld.vals:(l:Ld)→l.T reg→List (Nat×V reg.T)
 | .slot t k,x=>[(t,qJ9 reg k x)]
 | .obj _ _,_=>[]
 | .rows _ _,_=>[]
 | .ptr t m _,_=>[(t,.ptr m 0 0)]
 | .sit _,_=>[]
 | .gone _,_=>[]
def Ld.bH:(l:Ld)→l.T reg→List (Nat×O reg.T)
 | .slot _ k,x=>k.bH reg x
 | .obj i ks,x=>(i,.rows (Cs.enc reg ks x).length [Cs.enc reg ks x])::Cs.bH reg ks x
 | .rows i e,x=>[(i,.trows e x)]
 | .ptr _ m ks,x=>(m,.rows (Cs.enc reg ks x).length [Cs.enc reg ks x])::Cs.bH reg ks x
 | .sit i,x=>[(i,.sit x.1 x.2.1)]
 | .gone _,_=>[]
def Sg.vals:(ls:List Ld)→Sg reg ls→List (Nat×V reg.T)
 | [],_=>[]
 | l::ls,x=>l.vals reg x.1++Sg.vals ls x.2
def Sg.bH:(ls:List Ld)→Sg reg ls→List (Nat×O reg.T)
 | [],_=>[]
 | l::ls,x=>l.bH reg x.1++Sg.bH ls x.2
def Kd.w:Kd→Nat
 | .rcd e=>reg.k e
 | _=>1
def qR:(ks:List Kd)→List (V reg.T)→(Nat→Option (O reg.T))→Option (Ob×Cs reg ks×Rho)
 | [],cs,_=>(match cs with | []=>some (none,(),[]) | _=>none)
 | k::ks,cs,g=>(match Nat.ble (k.w reg) cs.length,k.read reg (cs.take (k.w reg)) g,qR ks (cs.drop (k.w reg)) g with
  | true,some (b,x,o),some (b',y,l)=>some (qUA b b',(x,y),kR k o l)
  | _,_,_=>none)
def vY(k:Kd)(v:V reg.T)(g:Nat→Option (O reg.T)):Option (Ob×k.T reg×Option Nat):=match isRec k with
 | true=>(match v with | .agg cs=>k.read reg cs g | _=>none)
 | false=>k.read reg [v] g
def Ld.read:(l:Ld)→St reg.T→Option (Ob×l.T reg×Rho)
 | .slot t k,st=>(match st.env.get t with
  | some v=>(match vY reg k v st.hp.get with
   | some (b,x,o)=>some (b,x,kR k o [])
   | none=>none)
  | none=>none)
 | .obj i ks,st=>(match st.hp.get i with
  | some (.rows _ [cs])=>(match qR reg ks cs st.hp.get with
   | some (b,x,l)=>some (b,x,(i,some i)::l)
   | none=>none)
  | _=>none)
 | .rows i e,st=>(match st.hp.get i with
  | some (.trows e' xs)=>(match qBx xs e with
   | some ys=>some (none,ys,[(i,some i)])
   | none=>none)
  | _=>none)
 | .ptr t m ks,st=>(match st.env.get t with
  | some (.ptr j 0 0)=>(match st.hp.get j with
   | some (.rows _ [cs])=>(match qR reg ks cs st.hp.get with
    | some (b,x,l)=>some (b,x,(m,some j)::l)
    | none=>none)
   | _=>none)
  | _=>none)
 | .sit i,st=>(match st.hp.get i with
  | some (.sit s p)=>some (none,(s,p,()),[(i,some i)])
  | _=>none)
 | .gone i,_=>some (none,(),[(i,none)])
def yP:(ls:List Ld)→St reg.T→Option (Ob×Sg reg ls×Rho)
 | [],_=>some (none,(),[])
 | l::ls,st=>(match l.read reg st,yP ls st with
  | some (b,x,r),some (b',y,r')=>some (qUA b b',(x,y),r++r')
  | _,_=>none)
def iI{α:Type}:List Nat→Tr α→Tr α
 | [],t=>t
 | i::l,t=>(iI l t).set i none
def Tr.allT{α:Type}(f:α→Bool):Tr α→Bool
 | .e=>true
 | .n l v r=>(match l.allT f with
  | true=>(match v with | some x=>(match f x with | true=>r.allT f | false=>false) | none=>r.allT f)
  | false=>false)
def qF(ρ:Rho)(nx i:Nat):Option Nat:=match bV ρ i with
 | some o=>o
 | none=>(match Nat.blt i nx with | true=>some i | false=>none)
def vZ(ρ:Rho)(nx i:Nat):Bool:=match qF ρ nx i with | some j=>Nat.beq j i | none=>false
def V.uS{T:Nat→Type}(ρ:Rho)(nx:Nat):V T→Bool
 | .ptr i _ _=>vZ ρ nx i
 | .sl i _ _ _=>vZ ρ nx i
 | .mp i=>vZ ρ nx i
 | .it i=>vZ ρ nx i
 | .fn _ vs us=>goL ρ nx vs&&goL ρ nx us
 | .ifc _ v=>V.uS ρ nx v
 | .agg vs=>goL ρ nx vs
 | .tup vs=>goL ρ nx vs
 | _=>true
where goL {T:Nat→Type} (ρ:Rho) (nx:Nat):List (V T)→Bool
 | []=>true
 | v::vs=>V.uS ρ nx v&&goL ρ nx vs
def O.uS{T:Nat→Type}(ρ:Rho)(nx:Nat):O T→Bool
 | .rows _ xs=>xs.all (V.uS.goL ρ nx)
 | .trows _ _=>true
 | .map _ es=>es.all fun e=>V.uS ρ nx e.1.1&&V.uS ρ nx e.1.2
 | .sit _ _=>true
 | .mit m _ _ _=>(match m with | some i=>vZ ρ nx i | none=>true)
def zMf(ls:List Ld)(n:Nat):Nat:=(ls.flatMap Ld.names).foldl (fun a m=>Nat.max a (m+1)) n
def qIt(D:List Nat)(ls:List Ld)(st:St reg.T)(s:Sg reg ls):St reg.T :=
 ⟨dN (Sg.vals reg ls s) (iI D st.env),⟨dN (Sg.bH reg ls s) (iI (ls.flatMap Ld.names) st.hp.h),zMf ls st.hp.nx,ls.flatMap Ld.names++st.hp.wr⟩⟩
def gW:Rho→List Nat
 | []=>[]
 | (_,some j)::l=>j::gW l
 | (_,none)::l=>gW l
def okR(n0 nx nxA:Nat)(ρ:Rho):Bool :=
 Nat.ble n0 nx&&Nat.ble nx nxA&&Tr.ok nxA&&dO (gW ρ)&&dO (ρ.map (·.1))&&(gW ρ).all (fun j=>Nat.ble nx j||kN (ρ.map (·.1)) j) &&
  (ρ.map (·.1)).all (fun m=>Nat.blt m nxA)&&ρ.all fun p=>Nat.ble n0 p.1||vZ ρ nx p.1
def qX7(st st':St reg.T):List Nat:=st'.hp.wr.take (st'.hp.wr.length-st.hp.wr.length)
def qIu(D:List Nat)(ls:List Ld):Bool :=
 D.all Tr.ok&&(ls.flatMap Ld.slots).all (kN D)&&(ls.flatMap Ld.names).all Tr.ok
def qHN(n0:Nat)(D:List Nat)(ls:List Ld)(st:St reg.T)(ρ:Rho)(st':St reg.T):Bool :=
 okR n0 st.hp.nx (zMf ls st.hp.nx) ρ&&(qX7 reg st st').all (fun i=>Nat.ble st.hp.nx i||kN (ls.flatMap Ld.names) i) &&
  (iI D st.env).allT (V.uS ρ st.hp.nx)&&(iI (ls.flatMap Ld.names) st.hp.h).allT (O.uS ρ st.hp.nx)
end
section
variable {reg:Reg} {P:Program} {hd:Hd reg.T} {nt:Nat}
theorem iA{α:Type}:∀{l:List Nat} {t:Tr α},(∀i∈l,Tr.ok i=true)→∀j,(iI l t).get j=if j∈l then none else t.get j
 | [],t,_,j=>by simp[iI]
 | i::l,t,h,j=>by
  simp only[iI]
  rw[Tr.iD (h i (by simp)),iA (fun k hk=>h k (by simp[hk]))]
  by_cases e:j=i
  ·subst e;simp
  ·simp[e]
theorem qGQ{α:Type}{f:α→Bool}:∀{t:Tr α},t.allT f=true→∀{p:Nat} {x:α},t.qEf p=some x→f x=true
 | .e,_,p,x,h=>by simp[Tr.qEf] at h
 | .n l v r,ht,p,x,h=>by
  simp only[Tr.allT] at ht
  rw[Tr.qA2] at h
  split at ht
  ·rename_i hl
   have hr:(∀y,v=some y→f y=true)∧r.allT f=true:=by
    split at ht
    ·rename_i y
     split at ht
     ·rename_i hy;exact⟨fun z hz=>(by cases hz;exact hy),ht⟩
     ·cases ht
    ·exact⟨fun z hz=>(by cases hz),ht⟩
   split at h
   ·exact hr.1 _ h
   ·split at h
    ·exact qGQ hl h
    ·exact qGQ hr.2 h
  ·cases ht
theorem qFr{α:Type}{f:α→Bool}{t:Tr α}(ht:t.allT f=true){i:Nat}{x:α}(h:t.get i=some x):f x=true:=qGQ ht h
def qEp(ρ:Rho)(nx:Nat)(φ:Phi):Phi:=fun i=>match qF ρ nx i with | some j=>φ j | none=>none
theorem vG{ρ:Rho}{nx:Nat}{φ:Phi}{i:Nat}{p:Nat×Nat×Nat×Nat}(h:qEp ρ nx φ i=some p):∃j,qF ρ nx i=some j∧φ j=some p:=by
 unfold qEp at h
 split at h
 ·rename_i j hj;exact⟨j,hj,h⟩
 ·cases h
theorem qM9{ρ:Rho}{nx i:Nat}(h:vZ ρ nx i=true):qF ρ nx i=some i:=by
 unfold vZ at h
 split at h
 ·rename_i j hj;rw[hj,cu h]
 ·cases h
theorem qCZ{ρ:Rho}{nx:Nat}{φ:Phi}{i:Nat}(h:vZ ρ nx i=true):qEp ρ nx φ i=φ i:=by
 unfold qEp;rw[qM9 h]
theorem vH{T:Nat→Type}{ρ:Rho}{nx:Nat}:∀{vs:List (V T)},V.uS.goL ρ nx vs=true→∀j,(vs.getD j .any).uS ρ nx=true
 | [],_,j=>by simp[V.uS]
 | v::vs,h,j=>by
  simp only[V.uS.goL,bn] at h
  cases j with
  | zero=>simpa using h.1
  | succ j=>simpa using vH h.2 j
theorem qI2{ρ:Rho}{nx:Nat}{F:Nat→Prop}{w:World}{φ:Phi}{v:V reg.T}{cv:Value}(h:aI reg F w φ v cv):v.uS ρ nx=true→aI reg F w (qEp ρ nx φ) v cv:=by
 induction h with
 | d x v hd=>intro _;exact .d x v hd
 | ptr i r o b s k z hp=>intro hf;exact .ptr i r o b s k z ((qCZ hf).trans hp)
 | fp row o a C t fz hFa hb hz hr=>intro _;exact .fp row o a C t fz hFa hb hz hr
 | sl i off len cap b s k z cap' hp hc hl hm' hz=>intro hf;exact .sl i off len cap b s k z cap' ((qCZ hf).trans hp) hc hl hm' hz
 | slz i off cap base hc hb=>intro _;exact .slz i off cap base hc hb
 | mp i b s hp=>intro hf;exact .mp i b s ((qCZ hf).trans hp)
 | it i b s hp=>intro hf;exact .it i b s ((qCZ hf).trans hp)
 | fn f caps fst cs fs hz _ hz' _ ih ih' =>
  intro hf
  simp only[V.uS,bn] at hf
  exact .fn f caps fst cs fs hz (fun j hj=>ih j hj (vH hf.1 j)) hz' (fun j hj=>ih' j hj (vH hf.2 j))
 | agg vs cs hz _ ih=>intro hf;exact .agg vs cs hz fun j hj=>ih j hj (vH hf j)
 | tup vs cs hz _ ih=>intro hf;exact .tup vs cs hz fun j hj=>ih j hj (vH hf j)
 | ifc t v cv _ ih=>intro hf;exact .ifc t v cv (ih hf)
 | undef=>intro _;exact .undef
 | any v=>intro _;exact .any v
theorem zDs{ρ:Rho}{nx:Nat}{F:Nat→Prop}{w:World}{φ:Phi}{es:List ((V reg.T×V reg.T)×Nat)}{cs:List MapEntry}(h:mX reg F w φ es cs):(es.all fun e=>V.uS ρ nx e.1.1&&V.uS ρ nx e.1.2)=true→mX reg F w (qEp ρ nx φ) es cs:=by
 induction h with
 | nil=>intro _;exact .nil
 | cons k v n c es cs hk hv hn _ ih =>
  intro hf
  simp only[u7,bn] at hf
  exact .cons k v n c es cs (qI2 hk hf.1.1) (qI2 hv hf.1.2) hn (ih (by simpa using hf.2))
theorem zDt{ρ:Rho}{nx:Nat}{o:O reg.T}(ho:o.uS ρ nx=true)(r j:Nat):((o.row reg r).getD j .any).uS ρ nx=true:=by
 cases o with
 | rows k xs =>
  simp only[O.uS,fw] at ho
  refine vH ?_ j
  show V.uS.goL ρ nx (xs.getD r [])=true
  rcases iw r xs.length with h | h
  ·rw[show xs.getD r []=xs[r] by simp[List.getD,h]]
   exact ho _ (nz h)
  ·rw[show xs.getD r []=[] by simp[List.getD,h]];rfl
 | trows e xs =>
  show((((reg.enc e (xs.getD r (reg.dflt e))).map V.d).getD j .any)).uS ρ nx=true
  simp only[List.getD,qa]
  cases (reg.enc e _)[j]?<;>rfl
 | map c es=>rfl
 | sit s p=>rfl
 | mit m a b c=>rfl
theorem zDu{ρ:Rho}{nx:Nat}{F:Nat→Prop}{w:World}{φ:Phi}{i:Nat}{o:O reg.T}(h:kE reg F w φ i o)(ho:o.uS ρ nx=true)(hi:vZ ρ nx i=true):kE reg F w (qEp ρ nx φ) i o:=by
 have e:=qCZ (φ:=φ) hi
 rcases h with h | ⟨c,es,b,ces,rfl,h1,h2,h3⟩ | ⟨s,p,b,rfl,h1,h2⟩ | ⟨m,s,n,l,b,mb,rfl,h1,h2,h3⟩
 ·refine .inl ⟨h.1,?_⟩
  rcases h.2 with⟨h1,h2⟩ | ⟨b,s,C,t,fz,h1,h2,h3,h4⟩
  ·exact .inl ⟨h1,e.trans h2⟩
  ·exact .inr ⟨b,s,C,t,fz,e.trans h1,h2,h3,⟨h4.size,h4.len,⟨h4.at_.wid,h4.at_.bR,fun r j hr hj=>qI2 (h4.at_.rel r j hr hj) (zDt ho r j)⟩⟩⟩
 ·exact .inr (.inl ⟨c,es,b,ces,rfl,e.trans h1,h2,zDs h3 (by simpa only[O.uS] using ho)⟩)
 ·exact .inr (.inr (.inl ⟨s,p,b,rfl,e.trans h1,h2⟩))
 ·refine .inr (.inr (.inr ⟨m,s,n,l,b,mb,rfl,e.trans h1,h2,?_⟩))
  cases m with
  | none=>exact h3
  | some j =>
   obtain⟨c,s',e1,e2⟩:=h3
   exact⟨c,s',(qCZ (by simpa only[O.uS] using ho)).trans e1,e2⟩
theorem qBE{T:Nat→Type}{e e':Nat}{xs:List (T e)}{ys:List (T e')}(h:qBx xs e' = some ys):D.sl e xs=D.sl e' ys∧O.trows e xs=O.trows e' ys:=by
 obtain⟨he,hy⟩:=qEg h
 subst he;subst hy;exact⟨rfl,rfl⟩
def Agree(ρ:Rho)(φ φ':Phi):Prop:=∀m o,(m,o)∈ρ→φ' m=o.bind φ
def wB(ρ:Rho)(g:Nat→Option (O reg.T))(i:Nat)(o:Option Nat)(ob:O reg.T):Prop:=match o with
 | none=>∃e,ob=.trows e []
 | some j=>∃u,g j=some u∧∀(F:Nat→Prop) (w:World) (φ φ':Phi),Agree ρ φ φ'→φ' i=φ j→kE reg F w φ j u→kE reg F w φ' i ob
theorem Agree.sub{ρ ρ':Rho}{φ φ':Phi}(h:Agree ρ' φ φ')(hs:∀p∈ρ,p∈ρ'):Agree ρ φ φ':=fun m o hm=>h m o (hs _ hm)
theorem wB.sub{ρ ρ':Rho}{g:Nat→Option (O reg.T)}{i:Nat}{o:Option Nat}{ob:O reg.T}(h:wB ρ g i o ob)(hs:∀p∈ρ,p∈ρ'):wB ρ' g i o ob:=by
 cases o with
 | none=>exact h
 | some j=>obtain⟨u,h1,h2⟩:=h;exact⟨u,h1,fun F w φ φ' ha=>h2 F w φ φ' (ha.sub hs)⟩
theorem qMA{F:Nat→Prop}{w:World}{φ φ':Phi}{x:D reg.T}{cv:Value}(h:aI reg F w φ (.d x) cv):aI reg F w φ' (.d x) cv:=by
 cases h with
 | d _ _ hd=>exact .d _ _ hd
theorem qGR{F:Nat→Prop}{w:World}{φ φ':Phi}{i j e n:Nat}{ys:List (reg.T e)}(hi:φ' i=φ j)(h:kE reg F w φ j (.trows e ys)):kE reg F w φ' i (.trows e (ys.take n)):=by
 have h:=h.rows reg rfl
 refine .inl ⟨rfl,?_⟩
 rcases h.2 with⟨h1,h2⟩ | ⟨b,s,C,t,fz,h1,h2,h3,h4⟩
 ·have h1:ys.length=0:=h1
  exact .inl ⟨by show(ys.take n).length=0;rw[ed];omega,hi.trans h2⟩
 ·have hl:(ys.take n).length≤ys.length:=by simp;omega
  have hk:∀r,r<(ys.take n).length→(O.trows e (ys.take n)).row reg r=(O.trows e ys).row reg r:=by
   intro r hr
   simp only[ed] at hr
   show(reg.enc e ((ys.take n).getD r (reg.dflt e))).map V.d=(reg.enc e (ys.getD r (reg.dflt e))).map V.d
   have: (ys.take n).getD r (reg.dflt e)=ys.getD r (reg.dflt e):=by
    simp only[List.getD,j5];rw[if_pos (by omega)]
   rw[this]
  refine .inr ⟨b,s,C,t,fz,hi.trans h1,h2,h3,?_,?_,?_,?_,?_⟩
  ·have h5:(ys.take n).length*reg.k e≤ys.length*reg.k e:=dx _ hl
   show s+(ys.take n).length*reg.k e≤C.size
   have h6:s+ys.length*reg.k e≤C.size:=h4.size
   omega
  ·have h6:ys.length≤9223372036854775807:=h4.len
   show(ys.take n).length≤_
   omega
  ·intro r hr
   rw[hk r hr];exact h4.at_.wid r (ig hr hl)
  ·intro r c hr hc
   rw[hk r hr];exact h4.at_.bR r c (ig hr hl) hc
  ·intro r c hr hc
   have h5:=h4.at_.rel r c (ig hr hl) hc
   rw[hk r hr]
   have h6:c<(reg.enc e (ys.getD r (reg.dflt e))).length:=by rw[reg.len];exact hc
   have h7:((O.trows e ys).row reg r).getD c .any=.d ((reg.enc e (ys.getD r (reg.dflt e)))[c]):=by
    show((reg.enc e (ys.getD r (reg.dflt e))).map V.d).getD c .any=_
    rw[List.getD,qa,j3 h6];rfl
   rw[h7] at h5 ⊢
   exact qMA h5
theorem qFs{k k':IntKind}(h:sameKind k k' = true):k=k':=by
 cases k<;>cases k'<;>first | rfl | cases h
theorem CD.zLs{T:Nat→Type}{c:CD}{x:D T}(h:c.is x=true):c.enc=x:=by
 cases c<;>cases x<;>simp only[CD.is] at h<;>first | (cases h;done) | rfl | (exact congrArg D.str (eq_of_beq h))
theorem Kd.iQ{k:Kd}{cs:List (V reg.T)}{g:Nat→Option (O reg.T)}{x:k.T reg}{o:Option Nat}{b:Ob}(h:k.read reg cs g=some (b,x,o))(hb:okO b=true) :
  (k.enc reg x).length=cs.length∧(∀j,j<cs.length→((k.enc reg x).getD j .any).bR=true) ∧
   ∀(F:Nat→Prop) (w:World) (φ φ':Phi),Agree (kR k o []) φ φ'→∀j cv,j<cs.length→aI reg F w φ (cs.getD j .any) cv→aI reg F w φ' ((k.enc reg x).getD j .any) cv:=by
 have one:∀(v u:V reg.T),u.bR=true→(∀(F:Nat→Prop) (w:World) (φ φ':Phi),Agree (kR k o []) φ φ'→∀cv,aI reg F w φ v cv→aI reg F w φ' u cv)→[u].length=[v].length∧(∀j,j<[v].length→([u].getD j .any).bR=true) ∧
   ∀(F:Nat→Prop) (w:World) (φ φ':Phi),Agree (kR k o []) φ φ'→∀j cv,j<[v].length→aI reg F w φ ([v].getD j .any) cv→aI reg F w φ' ([u].getD j .any) cv:=by
  intro v u hu hr
  refine⟨rfl,fun j hj=>?_,fun F w φ φ' ha j cv hj h=>?_⟩
  ·have: j=0:=by simpa using hj
   subst this;exact hu
  ·have: j=0:=by simpa using hj
   subst this;exact hr F w φ φ' ha cv h
 cases k with
 | cst c =>
  simp only[Kd.read] at h
  split at h
  ·split at h
   ·rename_i hk
    cases h
    exact one _ _ rfl fun _ _ _ _ _ _ h=>(CD.zLs hk)▸qMA h
   ·cases h
  ·cases h
 | int k =>
  simp only[Kd.read] at h
  split at h
  ·split at h
   ·rename_i hk
    cases h
    cases qFs hk
    exact one _ _ rfl fun _ _ _ _ _ _ h=>qMA h
   ·cases h
  ·cases h
 | bool =>
  simp only[Kd.read] at h
  split at h
  ·cases h;exact one _ _ rfl fun _ _ _ _ _ _ h=>qMA h
  ·cases h
 | str =>
  simp only[Kd.read] at h
  split at h
  ·cases h;exact one _ _ rfl fun _ _ _ _ _ _ h=>qMA h
  ·cases h
 | dat e =>
  simp only[Kd.read] at h
  split at h
  ·split at h
   ·rename_i ys hc
    cases h
    refine one _ _ rfl fun F w φ φ' _ cv h=>?_
    have:= qMA (φ':=φ') h
    rw[(qBE hc).1] at this
    exact this
   ·cases h
  ·cases h
   refine one _ _ rfl fun F w φ φ' _ cv h=>?_
   cases h with
   | d x v hd =>
    cases hd with
    | nils=>exact .d _ _ (.emp _ rfl rfl none 0)
    | emp x hx hl base cap=>cases hx
    | sl x n a cap C t fz hx=>cases hx
  ·cases h
 | own m e cut =>
  simp only[Kd.read] at h
  split at h
  ·cases h
   refine one _ _ rfl fun F w φ φ' _ cv h=>?_
   cases h with
   | d x v hd =>
    cases hd with
    | nils=>exact .slz m 0 (.least 0) none (df 0) (fun _=>rfl)
    | emp x hx hl base cap=>cases hx
    | sl x n a cap C t fz hx=>cases hx
  ·rename_i j len cap
   split at h
   ·rename_i e' xs hg
    split at h
    ·rename_i ys hc
     have fin:∀(zs:List (reg.T e)),zs.length=len→∀(F:Nat→Prop) (w:World) (φ φ':Phi),Agree (kR (.own m e cut) (some j) []) φ φ'→∀cv,aI reg F w φ (.sl j 0 len cap) cv→aI reg F w φ' (.sl m 0 zs.length (.least 0)) cv:=by
      intro zs hz F w φ φ' ha cv hv
      have hm:φ' m=φ j:=ha m (some j) (by simp[kR])
      rw[hz]
      cases hv with
      | sl _ _ _ _ b s k z cap' hp hc hl hm' hz=>exact .sl m 0 len (.least 0) b s k z cap' (hm.trans hp) (cz _) hl hm' hz
      | slz _ _ _ base hc hb=>exact .slz m 0 (.least 0) base (df 0) (fun _=>rfl)
     cases cut with
     | true =>
      cases h
      have h1:len≤ys.length:=bu hb
      exact one _ _ rfl (fin _ (by simp;omega))
     | false =>
      cases h
      have h1:len=ys.length:=cu hb
      exact one _ _ rfl (fin _ h1.symm)
    ·cases h
   ·cases h
  ·cases h
 | rcd e =>
  simp only[Kd.read] at h
  split at h
  ·rename_i l hl
   split at h
   ·rename_i x' hx
    cases h
    have h1:=reg.law e l _ hx
    have h2:=sO hl
    subst h2
    refine⟨by simp[Kd.enc,h1.1],fun j hj=>?_,fun F w φ φ' _ j cv hj h=>?_⟩
    ·have hj':j<(reg.enc e x).length:=by rw[h1.1];simpa using hj
     show(((reg.enc e x).map V.d).getD j .any).bR=true
     simp[List.getD,hj',V.bR]
    ·have hj1:j<l.length:=by simpa using hj
     have hj':j<(reg.enc e x).length:=by rw[h1.1];exact hj1
     have e1:((l.map V.d).getD j .any:V reg.T)=.d (l.getD j .nilp):=by simp[List.getD,hj1]
     have e2:(((reg.enc e x).map V.d).getD j .any:V reg.T)=.d ((reg.enc e x).getD j .nilp):=by simp[List.getD,hj']
     rw[e1] at h
     show aI reg F w φ' (((reg.enc e x).map V.d).getD j .any) cv
     rw[e2]
     cases h with
     | d x v hd=>exact .d _ _ ((h1.2 j).rel hd)
   ·cases h
  ·cases h
theorem Kd.qJA{k:Kd}{cs:List (V reg.T)}{g:Nat→Option (O reg.T)}{x:k.T reg}{o:Option Nat}{b:Ob}(h:k.read reg cs g=some (b,x,o))(hb:okO b=true) :
  ∀i ob,(i,ob)∈k.bH reg x→(i,o)∈kR k o []∧wB (kR k o []) g i o ob:=by
 intro i ob hm
 cases k with
 | own m e cut =>
  simp only[Kd.bH,ib,eu] at hm
  obtain⟨rfl,rfl⟩:=hm
  refine⟨by simp[kR],?_⟩
  simp only[Kd.read] at h
  split at h
  ·cases h;exact⟨e,rfl⟩
  ·rename_i j len cap
   split at h
   ·rename_i e' xs hg
    split at h
    ·rename_i ys hc
     have hc2:=(qBE hc).2
     cases cut with
     | true =>
      cases h
      exact⟨_,hg,fun F w φ φ' _ hi ho=>qGR hi (hc2▸ho)⟩
     | false =>
      cases h
      refine⟨_,hg,fun F w φ φ' _ hi ho=>?_⟩
      have:= qGR (n:=ys.length) hi (hc2▸ho)
      rw[iq] at this
      exact this
    ·cases h
   ·cases h
  ·cases h
 | cst c=>simp[Kd.bH] at hm
 | int k=>simp[Kd.bH] at hm
 | bool=>simp[Kd.bH] at hm
 | str=>simp[Kd.bH] at hm
 | dat e=>simp[Kd.bH] at hm
 | rcd e=>simp[Kd.bH] at hm
theorem qMB{k:Kd}{o:Option Nat}{l:Rho}{p:Nat×Option Nat}:p∈kR k o l↔p∈kR k o []∨p∈l:=by
 cases k<;>simp[kR]
theorem qEq{k:Kd}{o:Option Nat}{l:Rho}:(kR k o l).map (·.1)=k.names++l.map (·.1):=by
 cases k<;>simp[kR,Kd.names]
theorem qMC{k:Kd}{v:V reg.T}{g:Nat→Option (O reg.T)}{x:k.T reg}{o:Option Nat}{b:Ob}(h:vY reg k v g=some (b,x,o))(hb:okO b=true) :
  (qJ9 reg k x).bR = !isRec k∧(∀(F:Nat→Prop) (w:World) (φ φ':Phi),Agree (kR k o []) φ φ'→∀cv,aI reg F w φ v cv→aI reg F w φ' (qJ9 reg k x) cv) ∧
   ∀i ob,(i,ob)∈k.bH reg x→(i,o)∈kR k o []∧wB (kR k o []) g i o ob:=by
 unfold vY at h
 unfold qJ9
 split at h
 ·rename_i hr
  split at h
  ·rename_i cs
   obtain⟨h1,h2,h3⟩:=Kd.iQ h hb
   rw[hr]
   refine⟨rfl,fun F w φ φ' ha cv hv=>?_,Kd.qJA h hb⟩
   cases hv with
   | agg vs cs hz hh=>exact .agg _ _ (h1.trans hz) fun j hj=>h3 F w φ φ' ha j _ (by omega) (hh j (by omega))
  ·cases h
 ·rename_i hr
  obtain⟨h1,h2,h3⟩:=Kd.iQ h hb
  rw[hr]
  have e:(k.enc reg x).headD .any=(k.enc reg x).getD 0 .any:=by cases k.enc reg x<;>rfl
  simp only[e]
  exact⟨h2 0 (by simp),fun F w φ φ' ha cv hv=>h3 F w φ φ' ha 0 cv (by simp) hv,Kd.qJA h hb⟩
theorem qU:∀{ks:List Kd} {cs:List (V reg.T)} {g:Nat→Option (O reg.T)} {x:Cs reg ks} {ρ:Rho} {b:Ob},qR reg ks cs g=some (b,x,ρ)→okO b=true →
  ρ.map (·.1)=ks.flatMap Kd.names∧(Cs.enc reg ks x).length=cs.length∧(∀j,j<cs.length→((Cs.enc reg ks x).getD j .any).bR=true) ∧
   (∀(F:Nat→Prop) (w:World) (φ φ':Phi),Agree ρ φ φ'→∀j cv,j<cs.length→aI reg F w φ (cs.getD j .any) cv→aI reg F w φ' ((Cs.enc reg ks x).getD j .any) cv) ∧
   ∀i ob,(i,ob)∈Cs.bH reg ks x→∃o,(i,o)∈ρ∧wB ρ g i o ob
 | [],cs,g,x,ρ,b,h,hb=>by
  simp only[qR] at h
  split at h
  ·cases h
   exact⟨rfl,rfl,fun j hj=>by simp at hj,fun _ _ _ _ _ j _ hj=>by simp at hj,fun i ob hm=>by simp[Cs.bH] at hm⟩
  ·cases h
 | k::ks,cs,g,x,ρ,_,h,hb=>by
  simp only[qR] at h
  split at h
  ·rename_i b y o b' z l hw h1 h2
   simp only[bz,eu] at h
   obtain⟨rfl,rfl,rfl⟩:=h
   obtain⟨hb1,hb2⟩:=qFp hb
   have hw:k.w reg≤cs.length:=bu hw
   obtain⟨a1,a2,a3⟩:=Kd.iQ h1 hb1
   have a4:=Kd.qJA h1 hb1
   obtain⟨b0,b1,b2,b3,b4⟩:=qU h2 hb2
   have hl1:(cs.take (k.w reg)).length=k.w reg:=by simp;omega
   have hl2:(cs.drop (k.w reg)).length=cs.length-k.w reg:=by simp
   rw[hl1] at a1 a2
   rw[hl2] at b1 b2
   have get1:∀j,j<k.w reg→(cs.take (k.w reg)).getD j .any=cs.getD j .any∧(Cs.enc reg (k::ks) (y,z)).getD j .any=(k.enc reg y).getD j .any:=by
    intro j hj
    constructor
    ·simp only[List.getD,j5];rw[if_pos hj]
    ·simp only[Cs.enc,List.getD]
     rw[jm (by omega)]
   have get2:∀j,¬j<k.w reg→(cs.drop (k.w reg)).getD (j-k.w reg) .any=cs.getD j .any∧(Cs.enc reg (k::ks) (y,z)).getD j .any=(Cs.enc reg ks z).getD (j-k.w reg) .any:=by
    intro j hj
    constructor
    ·simp only[List.getD,jf];rw[show k.w reg+(j-k.w reg)=j by omega]
    ·simp only[Cs.enc,List.getD]
     rw[jh (by omega),a1]
   have s1:∀p∈kR k o [],p∈kR k o l:=fun p hp=>qMB.2 (.inl hp)
   have s2:∀p∈l,p∈kR k o l:=fun p hp=>qMB.2 (.inr hp)
   refine⟨by rw[qEq,b0];simp,by simp only[Cs.enc,dh];omega,fun j hj=>?_,fun F w φ φ' ha j cv hj hv=>?_,fun i ob hm=>?_⟩
   ·by_cases hjk:j<k.w reg
    ·rw[(get1 j hjk).2];exact a2 j hjk
    ·rw[(get2 j hjk).2];exact b2 _ (by omega)
   ·by_cases hjk:j<k.w reg
    ·rw[(get1 j hjk).2]
     exact a3 F w φ φ' (ha.sub s1) j cv (by omega) ((get1 j hjk).1▸hv)
    ·rw[(get2 j hjk).2]
     exact b3 F w φ φ' (ha.sub s2) _ cv (by omega) ((get2 j hjk).1▸hv)
   ·simp only[Cs.bH,dz] at hm
    rcases hm with hm | hm
    ·obtain⟨c1,c2⟩:=a4 i ob hm
     exact⟨o,s1 _ c1,c2.sub s1⟩
    ·obtain⟨o',c1,c2⟩:=b4 i ob hm
     exact⟨o',s2 _ c1,c2.sub s2⟩
  ·cases h
theorem qJB{F:Nat→Prop}{w:World}{φ φ':Phi}{i j k:Nat}{cs row:List (V reg.T)}(hl:row.length=cs.length)(hs:∀c,c<cs.length→(row.getD c .any).bR=true)
  (hr:∀c cv,c<cs.length→aI reg F w φ (cs.getD c .any) cv→aI reg F w φ' (row.getD c .any) cv) (hi:φ' i=φ j) (h:kE reg F w φ j (.rows k [cs])):kE reg F w φ' i (.rows row.length [row]):=by
 have h:=h.rows reg rfl
 refine .inl ⟨rfl,?_⟩
 rcases h.2 with⟨h1,h2⟩ | ⟨b,s,C,t,fz,h1,h2,h3,h4⟩
 ·cases h1
 ·have hk:cs.length=k:=h4.at_.wid 0 (by show 0<1;omega)
  have h5:s+1*k≤C.size:=h4.size
  have hk2:row.length=k:=hl.trans hk
  refine .inr ⟨b,s,C,t,fz,?_,h2,by rw[show(O.rows row.length [row]).k reg=row.length from rfl,hk2];exact h3,?_,?_,?_,?_,?_⟩
  ·show φ' i=some (b,s,row.length,C.size)
   rw[hk2];exact hi.trans h1
  ·show s+1*row.length≤C.size
   rw[hk2];exact h5
  ·show 1≤_;omega
  ·intro r hr'
   have: r=0:=by have: r<1:=hr';omega
   subst this;rfl
  ·intro r c hr' hc
   have: r=0:=by have: r<1:=hr';omega
   subst this
   exact hs c (by have: c<row.length:=hc;omega)
  ·intro r c hr' hc
   have: r=0:=by have: r<1:=hr';omega
   subst this
   have hc':c<row.length:=hc
   have:= h4.at_.rel 0 c (by show 0<1;omega) (by show c<k;omega)
   have h7:=hr c _ (by omega) this
   have e1:0*(O.rows row.length [row]).k reg+c=0*(O.rows k [cs]).k reg+c:=by simp
   rw[e1]
   exact h7
theorem Ld.iQ{l:Ld}{st:St reg.T}{x:l.T reg}{ρ:Rho}{b:Ob}(h:l.read reg st=some (b,x,ρ))(hb:okO b=true) :
  ρ.map (·.1)=l.names∧(∀t v,(t,v)∈l.vals reg x→t∈l.slots∧∃u,st.env.get t=some u∧∀(F:Nat→Prop) (w:World) (φ φ':Phi),Agree ρ φ φ'→∀cv,aI reg F w φ u cv→aI reg F w φ' v cv) ∧
   ∀i ob,(i,ob)∈l.bH reg x→∃o,(i,o)∈ρ∧wB ρ st.hp.get i o ob:=by
 cases l with
 | slot t k =>
  simp only[Ld.read] at h
  split at h
  ·rename_i v hv
   split at h
   ·rename_i b y o hr
    simp only[bz,eu] at h
    obtain⟨rfl,rfl,rfl⟩:=h
    obtain⟨_,h2,h3⟩:=qMC hr hb
    refine⟨by rw[qEq];simp[Ld.names],fun t' v' hm=>?_,fun i ob hm=>⟨o,h3 i ob hm⟩⟩
    simp only[Ld.vals,ib,eu] at hm
    obtain⟨rfl,rfl⟩:=hm
    exact⟨by simp[Ld.slots],v,hv,h2⟩
   ·cases h
  ·cases h
 | obj i ks =>
  simp only[Ld.read] at h
  split at h
  ·rename_i k cs hg
   split at h
   ·rename_i b y l hr
    simp only[bz,eu] at h
    obtain⟨rfl,rfl,rfl⟩:=h
    obtain⟨h0,h1,h2,h3,h4⟩:=qU hr hb
    have s2:∀p∈l,p∈(i,some i)::l:=fun p hp=>by simp[hp]
    refine⟨by simp[Ld.names,h0],fun t' v' hm=>by simp[Ld.vals] at hm,fun i' ob hm=>?_⟩
    simp only[Ld.bH,fo,eu] at hm
    rcases hm with⟨rfl,rfl⟩ | hm
    ·exact⟨some i',by simp,_,hg,fun F w φ φ' ha hi ho=>qJB h1 h2 (fun c cv hc hv=>h3 F w φ φ' (ha.sub s2) c cv hc hv) hi ho⟩
    ·obtain⟨o,c1,c2⟩:=h4 i' ob hm
     exact⟨o,s2 _ c1,c2.sub s2⟩
   ·cases h
  ·cases h
 | rows i e =>
  simp only[Ld.read] at h
  split at h
  ·rename_i e' xs hg
   split at h
   ·rename_i ys hys
    cases h
    refine⟨rfl,fun t' v' hm=>by simp[Ld.vals] at hm,fun i' ob hm=>?_⟩
    simp only[Ld.bH,ib,eu] at hm
    obtain⟨rfl,rfl⟩:=hm
    refine⟨some i',by simp,_,hg,fun F w φ φ' _ hi ho=>?_⟩
    have h1:=(qBE hys).2▸ho
    have h2:=qGR (n:=List.length x) hi h1
    rw[show List.take (List.length x) x=x from iq] at h2
    exact h2
   ·cases h
  ·cases h
 | ptr t m ks =>
  simp only[Ld.read] at h
  split at h
  ·rename_i j hv
   split at h
   ·rename_i k cs hg
    split at h
    ·rename_i b y l hr
     simp only[bz,eu] at h
     obtain⟨rfl,rfl,rfl⟩:=h
     obtain⟨h0,h1,h2,h3,h4⟩:=qU hr hb
     have s2:∀p∈l,p∈(m,some j)::l:=fun p hp=>by simp[hp]
     refine⟨by simp[Ld.names,h0],fun t' v' hm=>?_,fun i' ob hm=>?_⟩
     ·simp only[Ld.vals,ib,eu] at hm
      obtain⟨rfl,rfl⟩:=hm
      refine⟨by simp[Ld.slots],_,hv,fun F w φ φ' ha cv hc=>?_⟩
      have e:φ' m=φ j:=ha m (some j) (by simp)
      cases hc with
      | ptr _ _ _ b s k z hp=>exact .ptr m 0 0 b s k z (e.trans hp)
     ·simp only[Ld.bH,fo,eu] at hm
      rcases hm with⟨rfl,rfl⟩ | hm
      ·exact⟨some j,by simp,_,hg,fun F w φ φ' ha hi ho=>qJB h1 h2 (fun c cv hc hv=>h3 F w φ φ' (ha.sub s2) c cv hc hv) hi ho⟩
      ·obtain⟨o,c1,c2⟩:=h4 i' ob hm
       exact⟨o,s2 _ c1,c2.sub s2⟩
    ·cases h
   ·cases h
  ·cases h
 | sit i =>
  simp only[Ld.read] at h
  split at h
  ·rename_i s p hg
   simp only[bz,eu] at h
   obtain⟨rfl,rfl,rfl⟩:=h
   refine⟨rfl,fun t' v' hm=>by simp[Ld.vals] at hm,fun i' ob hm=>?_⟩
   simp only[Ld.bH,ib,eu] at hm
   obtain⟨rfl,rfl⟩:=hm
   refine⟨some i',by simp,_,hg,fun F w φ φ' _ hi ho=>?_⟩
   obtain⟨b,h1,h2⟩:=ho.sit
   exact .inr (.inr (.inl ⟨s,p,b,rfl,hi.trans h1,h2⟩))
  ·cases h
 | gone i =>
  simp only[Ld.read] at h
  cases h
  exact⟨rfl,fun t' v' hm=>by simp[Ld.vals] at hm,fun i' ob hm=>by simp[Ld.bH] at hm⟩
theorem qJC:∀{ls:List Ld} {st:St reg.T} {x:Sg reg ls} {ρ:Rho} {b:Ob},yP reg ls st=some (b,x,ρ)→okO b=true →
  ρ.map (·.1)=ls.flatMap Ld.names∧(∀t v,(t,v)∈Sg.vals reg ls x→t∈ls.flatMap Ld.slots∧∃u,st.env.get t=some u∧∀(F:Nat→Prop) (w:World) (φ φ':Phi),Agree ρ φ φ'→∀cv,aI reg F w φ u cv→aI reg F w φ' v cv) ∧
   ∀i ob,(i,ob)∈Sg.bH reg ls x→∃o,(i,o)∈ρ∧wB ρ st.hp.get i o ob
 | [],st,x,ρ,b,h,hb=>by
  simp only[yP] at h
  cases h
  exact⟨rfl,fun t v hm=>by simp[Sg.vals] at hm,fun i ob hm=>by simp[Sg.bH] at hm⟩
 | l::ls,st,x,ρ,_,h,hb=>by
  simp only[yP] at h
  split at h
  ·rename_i b y r b' z r' h1 h2
   simp only[bz,eu] at h
   obtain⟨rfl,rfl,rfl⟩:=h
   obtain⟨hb1,hb2⟩:=qFp hb
   obtain⟨a1,a2,a3⟩:=Ld.iQ h1 hb1
   obtain⟨b1,b2,b3⟩:=qJC h2 hb2
   have s1:∀p∈r,p∈r++r':=fun p hp=>by simp[hp]
   have s2:∀p∈r',p∈r++r':=fun p hp=>by simp[hp]
   refine⟨by rw[l8,a1,b1];simp,fun t v hm=>?_,fun i ob hm=>?_⟩
   ·simp only[Sg.vals,dz] at hm
    rcases hm with hm | hm
    ·obtain⟨c0,u,c1,c2⟩:=a2 t v hm
     exact⟨by simp[c0],u,c1,fun F w φ φ' ha=>c2 F w φ φ' (ha.sub s1)⟩
    ·obtain⟨c0,u,c1,c2⟩:=b2 t v hm
     exact⟨by rw[jb];exact qz _ c0,u,c1,fun F w φ φ' ha=>c2 F w φ φ' (ha.sub s2)⟩
   ·simp only[Sg.bH,dz] at hm
    rcases hm with hm | hm
    ·obtain⟨o,c1,c2⟩:=a3 i ob hm
     exact⟨o,s1 _ c1,c2.sub s1⟩
    ·obtain⟨o,c1,c2⟩:=b3 i ob hm
     exact⟨o,s2 _ c1,c2.sub s2⟩
  ·cases h
theorem qAD{α:Type}:∀{l:List (Nat×α)},dO (l.map (·.1))=true→∀{i:Nat} {x:α},(i,x)∈l→bV l i=some x
 | (k,y)::l,h,i,x,hm=>by
  simp only[mg,dO,bn,mq] at h
  simp only[bV]
  rcases fo.1 hm with hm | hm
  ·cases hm;rw[lg]
  ·have hne:k≠i:=fun e=>by
    subst e
    have: kN (l.map (·.1)) k=true:=gP.2 (ic.2 ⟨_,hm,rfl⟩)
    rw[h.1] at this;cases this
   rw[Tr.qJb hne]
   exact qAD h.2 hm
theorem vI:∀{ρ:Rho} {m j:Nat},(m,some j)∈ρ→j∈gW ρ
 | (a,some b)::l,m,j,h=>by
  simp only[gW]
  rcases fo.1 h with h | h
  ·cases h;simp
  ·simp[vI h]
 | (a,none)::l,m,j,h=>by
  simp only[gW]
  rcases fo.1 h with h | h
  ·cases h
  ·exact vI h
theorem vJ:∀{ρ:Rho},dO (gW ρ)=true→∀{i j k:Nat},(i,some k)∈ρ→(j,some k)∈ρ→i=j
 | (a,some b)::l,h,i,j,k,hi,hj=>by
  simp only[gW,dO,bn,mq] at h
  have hn:∀m,(m,some b) ∉ l:=fun m hm=>by
   have: kN (gW l) b=true:=gP.2 (vI hm)
   rw[h.1] at this;cases this
  rcases fo.1 hi with hi | hi<;>rcases fo.1 hj with hj | hj
  ·cases hi;cases hj;rfl
  ·cases hi;exact(hn _ hj).elim
  ·cases hj;exact(hn _ hi).elim
  ·exact vJ h.2 hi hj
 | (a,none)::l,h,i,j,k,hi,hj=>by
  simp only[gW] at h
  rcases fo.1 hi with hi | hi<;>rcases fo.1 hj with hj | hj
  ·cases hi
  ·cases hi
  ·cases hj
  ·exact vJ h hi hj
structure zOy(n0 nx nxA:Nat)(ρ:Rho):Prop where
 le:n0≤nx
 le':nx≤nxA
 ok:Tr.ok nxA=true
 inj:∀i j k,qF ρ nx i=some k→qF ρ nx j=some k→i=j
 look:∀m o,(m,o)∈ρ→bV ρ m=some o
 dom:∀i k,qF ρ nx i=some k→i<nxA
 key:∀m o,(m,o)∈ρ→m<nxA
 self:∀i,i<n0→qF ρ nx i=some i
theorem zDv{n0 nx nxA:Nat}{ρ:Rho}(h:okR n0 nx nxA ρ=true):zOy n0 nx nxA ρ:=by
 unfold okR at h
 simp only[bn,fw,ni,gP] at h
 obtain⟨⟨⟨⟨⟨⟨⟨h1,h2⟩,h3⟩,h4⟩,h5⟩,h6⟩,h7⟩,h8⟩:=h
 have h1:n0≤nx:=bu h1
 have h2:nx≤nxA:=bu h2
 have hkey:∀m o,(m,o)∈ρ→m<nxA:=fun m o hm=>bu (h7 m (ic.2 ⟨_,hm,rfl⟩))
 have hs:∀i k,qF ρ nx i=some k→(i,some k)∈ρ∨(bV ρ i=none∧i<nx∧k=i):=by
  intro i k hi
  unfold qF at hi
  split at hi
  ·rename_i o ho;subst hi;exact .inl (kM ho)
  ·rename_i ho
   split at hi
   ·rename_i hb;cases hi;exact .inr ⟨ho,bu hb,rfl⟩
   ·cases hi
 have hno:∀i o,bV ρ i=none→(i,o) ∉ ρ:=fun i o hn hm=>by rw[qAD h5 hm] at hn;cases hn
 have mix:∀i j k,(i,some k)∈ρ→bV ρ j=none→j<nx→k=j→False:=by
  intro i j k hi hj hlt e
  subst e
  rcases h6 k (vI hi) with h | h
  ·have: nx≤k:=bu h;omega
  ·obtain⟨p,hp,e⟩:=ic.1 h
   obtain⟨m,o⟩:=p
   simp only at e;subst e
   exact hno _ _ hj hp
 refine⟨h1,h2,h3,fun i j k hi hj=>?_,fun m o hm=>qAD h5 hm,fun i k hi=>?_,hkey,fun i hi=>?_⟩
 ·rcases hs i k hi with hi | ⟨a1,a2,a3⟩<;>rcases hs j k hj with hj | ⟨b1,b2,b3⟩
  ·exact vJ h4 hi hj
  ·exact(mix i j k hi b1 b2 b3).elim
  ·exact(mix j i k hj a1 a2 a3).elim
  ·omega
 ·rcases hs i k hi with hi | ⟨a1,a2,a3⟩
  ·exact hkey _ _ hi
  ·omega
 ·cases hl:bV ρ i with
  | none =>
   unfold qF
   rw[hl]
   have: Nat.blt i nx=true:=by show Nat.ble (i+1) nx=true;exact ik (by omega)
   simp only[this]
  | some o =>
   rcases h8 _ (kM hl) with h | h
   ·have: n0≤i:=bu h;omega
   ·exact qM9 h
theorem qGS{α:Type}:∀{l:List (Nat×α)} {t:Tr α} {j:Nat},(∀p∈l,Tr.ok p.1=true)→(∀p∈l,p.1≠j)→(dN l t).get j=t.get j
 | [],t,j,_,_=>rfl
 | (i,x)::l,t,j,h,hn=>by
  simp only[dN]
  rw[Tr.iD (h (i,x) (by simp)),if_neg (fun e=>hn (i,x) (by simp) e.symm),qGS (fun p hp=>h p (by simp[hp])) (fun p hp=>hn p (by simp[hp]))]
theorem qAE:∀{ls:List Ld} {s:Sg reg ls} {t:Nat} {v:V reg.T},(t,v)∈Sg.vals reg ls s→t∈ls.flatMap Ld.slots
 | [],s,t,v,h=>by simp[Sg.vals] at h
 | l::ls,s,t,v,h=>by
  simp only[Sg.vals,dz] at h
  rw[jb,dz]
  rcases h with h | h
  ·left
   cases l with
   | slot t' k=>simp only[Ld.vals,ib,eu] at h;simp[Ld.slots,h.1]
   | obj i ks=>simp[Ld.vals] at h
   | rows i e=>simp[Ld.vals] at h
   | ptr t' m ks=>simp only[Ld.vals,ib,eu] at h;simp[Ld.slots,h.1]
   | sit i=>simp[Ld.vals] at h
   | gone i=>simp[Ld.vals] at h
  ·exact .inr (qAE h)
theorem qHO{k:Kd}{x:k.T reg}{i:Nat}{ob:O reg.T}(h:(i,ob)∈k.bH reg x):i∈k.names:=by
 cases k<;>simp[Kd.bH,Kd.names] at h ⊢
 exact h.1
theorem qAF:∀{ks:List Kd} {x:Cs reg ks} {i:Nat} {ob:O reg.T},(i,ob)∈Cs.bH reg ks x→i∈ks.flatMap Kd.names
 | [],x,i,ob,h=>by simp[Cs.bH] at h
 | k::ks,x,i,ob,h=>by
  simp only[Cs.bH,dz] at h
  rw[jb,dz]
  rcases h with h | h
  ·exact .inl (qHO h)
  ·exact .inr (qAF h)
theorem dG:∀{ls:List Ld} {s:Sg reg ls} {i:Nat} {ob:O reg.T},(i,ob)∈Sg.bH reg ls s→i∈ls.flatMap Ld.names
 | [],s,i,ob,h=>by simp[Sg.bH] at h
 | l::ls,s,i,ob,h=>by
  simp only[Sg.bH,dz] at h
  rw[jb,dz]
  rcases h with h | h
  ·left
   cases l with
   | slot t' k=>exact qHO h
   | obj j ks =>
    simp only[Ld.bH,fo,eu] at h
    rcases h with h | h
    ·simp[Ld.names,h.1]
    ·simp only[Ld.names];exact gy _ (qAF h)
   | rows j e =>
    simp only[Ld.bH,ib,eu] at h
    simp[Ld.names,h.1]
   | ptr t' j ks =>
    simp only[Ld.bH,fo,eu] at h
    rcases h with h | h
    ·simp[Ld.names,h.1]
    ·simp only[Ld.names];exact gy _ (qAF h)
   | sit j =>
    simp only[Ld.bH,ib,eu] at h
    simp[Ld.names,h.1]
   | gone j=>simp[Ld.bH] at h
  ·exact .inr (dG h)
theorem qFt:∀(l:List Nat) (n:Nat),n≤l.foldl (fun a m=>Nat.max a (m+1)) n
 | [],n=>df _
 | m::l,n=>bq (Nat.le_max_left n (m+1)) (qFt l _)
theorem qDa{D:List Nat}{ls:List Ld}(h:qIu D ls=true):(∀t∈D,Tr.ok t=true)∧(∀t∈ls.flatMap Ld.slots,t∈D)∧∀i∈ls.flatMap Ld.names,Tr.ok i=true:=by
 unfold qIu at h
 simp only[bn,fw,gP] at h
 exact⟨h.1.1,h.1.2,h.2⟩
theorem zIO{l:List Nat}{i:Nat}(h:kN l i=false):i ∉ l:=fun hm=>by rw[gP.2 hm] at h;cases h
theorem zAr{D:List Nat}{ls:List Ld}(hs:qIu D ls=true){st:St reg.T}{s:Sg reg ls}{t:Nat}(ht:kN D t=false):(qIt reg D ls st s).env.get t=st.env.get t:=by
 obtain⟨h1,h2,h3⟩:=qDa hs
 have hn:=zIO ht
 show(dN (Sg.vals reg ls s) (iI D st.env)).get t=_
 rw[qGS (fun p hp=>h1 _ (h2 _ (qAE hp))) (fun p hp e=>hn (by rw[←e];exact h2 _ (qAE hp))),iA h1,if_neg hn]
theorem zL{D:List Nat}{ls:List Ld}(hs:qIu D ls=true){st:St reg.T}{s:Sg reg ls}:Grow st.hp (qIt reg D ls st s).hp:=by
 obtain⟨h1,h2,h3⟩:=qDa hs
 refine⟨qFt _ _,_,rfl,fun i hi _=>?_⟩
 show(dN (Sg.bH reg ls s) (iI (ls.flatMap Ld.names) st.hp.h)).get i=_
 rw[qGS (fun p hp=>h3 _ (dG hp)) (fun p hp e=>hi (by rw[←e];exact dG hp)),iA h3,if_neg hi]
 rfl
theorem zMg{n0:Nat}{F0:Nat→Prop}{φ0:Phi}{H0:Nat→Option (O reg.T)}{w0:World}{D:List Nat}{ls:List Ld}{st st2:St reg.T}{s:Sg reg ls}{ρ:Rho}{b:Ob}(hs:qIu D ls=true)(hc:qHN reg n0 D ls st ρ st2=true)
  (hr:yP reg ls st2=some (b,s,ρ)) (hb:okO b=true) (hlt:∀i o,st.hp.get i=some o→i<st.hp.nx) (hK:∀t,kN D t=false→st2.env.get t=st.env.get t)
  (hH:∀i,i<st.hp.nx→kN (ls.flatMap Ld.names) i=false→st2.hp.get i=st.hp.get i) {a:Act} {w:World} (hR:RA n0 F0 φ0 H0 w0 nt st2 a w):RA n0 F0 φ0 H0 w0 nt (qIt reg D ls st s) a w:=by
 obtain⟨N,F,φ,hN,hR,hG⟩:=hR
 obtain⟨h1,h2,h3⟩:=qDa hs
 unfold qHN at hc
 simp only[bn] at hc
 obtain⟨⟨⟨hc1,_⟩,hc3⟩,hc4⟩:=hc
 obtain⟨hk,hv,ho⟩:=qJC hr hb
 have R:=zDv hc1
 have ag:Agree ρ φ (qEp ρ st.hp.nx φ):=by
  intro m o hm
  unfold qEp qF
  rw[R.look m o hm]
  cases o<;>rfl
 have hm:∀i,i∈ls.flatMap Ld.names↔∃o,(i,o)∈ρ:=by
  intro i
  rw[←hk,ic]
  exact⟨fun⟨p,hp,e⟩=>⟨p.2,e▸hp⟩,fun⟨o,ho⟩=>⟨_,ho,rfl⟩⟩
 have hobj:∀i o,(qIt reg D ls st s).hp.get i=some o→(qF ρ st.hp.nx i=none∧(∃e,o=.trows e []))∨∃j u,qF ρ st.hp.nx i=some j∧st2.hp.get j=some u∧(kE reg F w φ j u→kE reg F w (qEp ρ st.hp.nx φ) i o):=by
  intro i o hi
  rcases nS (fun p hp=>h3 _ (dG hp)) (show(dN (Sg.bH reg ls s) (iI (ls.flatMap Ld.names) st.hp.h)).get i=some o from hi) with h | h
  ·obtain⟨q,q1,q2⟩:=ho i o h
   have e:qF ρ st.hp.nx i=q:=by unfold qF;rw[R.look _ _ q1]
   cases q with
   | none=>exact .inl ⟨e,q2⟩
   | some j =>
    obtain⟨u,u1,u2⟩:=q2
    exact .inr ⟨j,u,e,u1,fun hu=>u2 F w φ _ ag (by unfold qEp;rw[e]) hu⟩
  ·have hfix:=qFr hc4 h
   rw[iA h3] at h
   split at h
   ·cases h
   ·rename_i hn
    have hn':kN (ls.flatMap Ld.names) i=false:=by
     cases hb:kN (ls.flatMap Ld.names) i with
     | false=>rfl
     | true=>exact(hn (gP.1 hb)).elim
    have hi':i<st.hp.nx:=hlt i o h
    have hl:bV ρ i=none:=by
     cases hl:bV ρ i with
     | none=>rfl
     | some q=>exact(hn ((hm i).2 ⟨q,kM hl⟩)).elim
    have e:qF ρ st.hp.nx i=some i:=by
     unfold qF
     rw[hl]
     have: Nat.blt i st.hp.nx=true:=ik hi'
     simp only[this]
    refine .inr ⟨i,o,e,(hH i hi' hn').trans h,fun hu=>zDu hu hfix ?_⟩
    unfold vZ
    rw[e]
    exact lg i
 refine⟨fun i=>i<zMf ls st.hp.nx,F,qEp ρ st.hp.nx φ,fun i hi=>hi,⟨fun t v hv'=>?_,hR.size,⟨fun i o hi=>?_,fun i o b s' k hi hp=>?_,fun i j oi oj b s1 k1 s2 k2 hi hj hpi hpj=>?_,fun i p hp=>?_,fun i o hi=>?_,fun i hi=>qQ3 R.ok hi,hR.heap.frz,hR.heap.lay⟩,hR.dfs⟩,?_⟩
 ·rcases nS (fun p hp=>h1 _ (h2 _ (qAE hp))) (show(dN (Sg.vals reg ls s) (iI D st.env)).get t=some v from hv') with h | h
  ·obtain⟨_,u,u1,u2⟩:=hv t v h
   obtain⟨g1,g2⟩:=hR.env t u u1
   exact⟨g1,u2 F w φ _ ag _ g2⟩
  ·have hfix:=qFr hc3 h
   rw[iA h1] at h
   split at h
   ·cases h
   ·rename_i hn
    have hn':kN D t=false:=by
     cases hb:kN D t with
     | false=>rfl
     | true=>exact(hn (gP.1 hb)).elim
    obtain⟨g1,g2⟩:=hR.env t v ((hK t hn').trans h)
    exact⟨g1,qI2 g2 hfix⟩
 ·rcases hobj i o hi with⟨e,e2,rfl⟩ | ⟨j,u,e,hu,hrel⟩
  ·exact .inl ⟨rfl,.inl ⟨rfl,by show qEp ρ st.hp.nx φ i=none;unfold qEp;rw[e]⟩⟩
  ·exact hrel (hR.heap.obj j u hu)
 ·obtain⟨j,e,hp'⟩:=vG hp
  rcases hobj i o hi with⟨e',_⟩ | ⟨j',u,e',hu,_⟩
  ·rw[e] at e';cases e'
  ·rw[e] at e';cases e'
   exact hR.heap.own j u b s' k hu hp'
 ·obtain⟨i',e,hp1⟩:=vG hpi
  obtain⟨j',e',hp2⟩:=vG hpj
  rcases hobj i oi hi with⟨e1,_⟩ | ⟨i2,u,e1,hu,_⟩
  ·rw[e] at e1;cases e1
  ·rcases hobj j oj hj with⟨e3,_⟩ | ⟨j2,u',e3,hu',_⟩
   ·rw[e'] at e3;cases e3
   ·rw[e] at e1;cases e1
    rw[e'] at e3;cases e3
    have:= hR.heap.inj i' j' u u' b s1 k1 s2 k2 hu hu' hp1 hp2
    subst this
    exact R.inj i j i' e e'
 ·obtain⟨j,e,_⟩:=vG hp
  exact R.dom i j e
 ·rcases nS (fun p hp=>h3 _ (dG hp)) (show(dN (Sg.bH reg ls s) (iI (ls.flatMap Ld.names) st.hp.h)).get i=some o from hi) with h | h
  ·obtain⟨q,q1,_⟩:=ho i o h
   exact R.key i q q1
  ·rw[iA h3] at h
   split at h
   ·cases h
   ·exact ig (hlt i o h) R.le'
 ·refine⟨hG.os,hG.tape,hG.output,hG.size,hG.block,hG.fsub,hG.fnew,fun i hi=>?_,fun i hi=>ig hi (bq R.le R.le'),fun b ⟨i,o,s',k,hi,hp⟩=>?_,fun i p hp=>?_⟩
  ·rw[←hG.phi i hi]
   unfold qEp
   rw[R.self i hi]
  ·obtain⟨j,e,hp'⟩:=vG hp
   rcases hobj i o hi with⟨e',_⟩ | ⟨j',u,e',hu,_⟩
   ·rw[e] at e';cases e'
   ·rw[e] at e';cases e'
    exact hG.dom b ⟨j,u,s',k,hu,hp'⟩
  ·obtain⟨j,e,hp'⟩:=vG hp
   rcases hG.new j p hp' with h | h
   ·left
    have: i=j:=R.inj i j j e (R.self j h)
    subst this
    exact h
   ·exact .inr h
end
end Go.W
namespace Go.W
open Go Go.RowKit
def zDw:Kd→Bool
 | .own _ _ _=>true
 | _=>false
def gI{T:Nat→Type}(env:Tr (V T)):List Ld→List (Nat×V T)
 | []=>[]
 | .slot t k::ls=>(match zDw k,env.get t with
  | false,some v=>(t,v)::gI env ls
  | _,_=>gI env ls)
 | _::ls=>gI env ls
def qAG{T:Nat→Type}:List (V T)→List Nat→List Nat
 | [],l=>l
 | v::vs,l=>qAG vs (match v with
  | .sl i _ _ _=>addN l i
  | .agg us=>goL us l
  | _=>l)
where goL {T:Nat→Type}:List (V T)→List Nat→List Nat
 | [],l=>l
 | v::vs,l=>goL vs (match v with
  | .sl i _ _ _=>addN l i
  | _=>l)
def qGT(reg:Reg):List Kd→List (V reg.T)→List (V reg.T)
 | [],_=>[]
 | k::ks,cs=>(match zDw k with
  | true=>qGT reg ks (cs.drop (k.w reg))
  | false=>cs.take (k.w reg)++qGT reg ks (cs.drop (k.w reg)))
def zIP(reg:Reg)(env:Tr (V reg.T))(g:Nat→Option (O reg.T)):List Ld→List Nat→List Nat
 | [],l=>l
 | .obj i ks::ls,l=>zIP reg env g ls (match g i with
  | some (.rows _ [cs])=>qAG (qGT reg ks cs) l
  | _=>l)
 | .ptr t _ ks::ls,l=>zIP reg env g ls (match env.get t with
  | some (.ptr i _ _)=>(match g i with
   | some (.rows _ [cs])=>qAG (qGT reg ks cs) l
   | _=>l)
  | _=>l)
 | _::ls,l=>zIP reg env g ls l
def qX8{T:Nat→Type}(g:Nat→Option (O T))(l:List Nat):List Nat:=l.foldl (fun a i=>qFj (g i) a) []++l
def qOQ{T:Nat→Type}:List (Nat×V T)→List (V T)→List (Nat×V T)
 | (t,_)::l,v::vs=>(t,v)::qOQ l vs
 | _,_=>[]
section
variable (reg:Reg)
def qJD(ls:List Ld)(st:St reg.T):Out (St reg.T):=match zIP reg st.env st.hp.get ls (qAG ((gI st.env ls).map (·.2)) []) with
 | []=>.ret st
 | i::l=>(qB9 reg (List.range st.hp.nx) (qX8 st.hp.get (i::l)) (.tup ((gI st.env ls).map (·.2)),st.hp)).bind fun r=>(match r.1 with
  | .tup vs=>.ret ⟨dN (qOQ (gI st.env ls) vs) st.env,r.2⟩
  | _=>.bad)
end
section
variable {reg:Reg} {P:Program} {nt:Nat}
theorem jE{T:Nat→Type}{env:Tr (V T)}:∀{ls:List Ld} {t:Nat} {v:V T},(t,v)∈gI env ls→env.get t=some v∧t∈ls.flatMap Ld.slots
 | [],t,v,h=>by simp[gI] at h
 | .slot u k::ls,t,v,h=>by
  simp only[gI] at h
  split at h
  ·rename_i w _ hw
   rcases fo.1 h with e | e
   ·cases e;exact⟨hw,by simp[Ld.slots]⟩
   ·have:= jE e;exact⟨this.1,by simp only[jb,dz];exact .inr this.2⟩
  ·have:= jE h;exact⟨this.1,by simp only[jb,dz];exact .inr this.2⟩
 | .obj i ks::ls,t,v,h=>by
  have:= jE (ls:=ls) (by simpa only[gI] using h)
  exact⟨this.1,by simp only[jb,dz];exact .inr this.2⟩
 | .rows i e::ls,t,v,h=>by
  have:= jE (ls:=ls) (by simpa only[gI] using h)
  exact⟨this.1,by simp only[jb,dz];exact .inr this.2⟩
 | .ptr _ _ _::ls,t,v,h=>by
  have:= jE (ls:=ls) (by simpa only[gI] using h)
  exact⟨this.1,by simp only[jb,dz];exact .inr this.2⟩
 | .sit _::ls,t,v,h=>by
  have:= jE (ls:=ls) (by simpa only[gI] using h)
  exact⟨this.1,by simp only[jb,dz];exact .inr this.2⟩
 | .gone _::ls,t,v,h=>by
  have:= jE (ls:=ls) (by simpa only[gI] using h)
  exact⟨this.1,by simp only[jb,dz];exact .inr this.2⟩
theorem qJE{T:Nat→Type}:∀{l:List (Nat×V T)} {vs:List (V T)} {t:Nat} {v:V T},(t,v)∈qOQ l vs→∃(j:Nat) (u:V T),l[j]? = some (t,u)∧vs[j]? = some v
 | [],_,t,v,h=>by simp[qOQ] at h
 | _::_,[],t,v,h=>by simp[qOQ] at h
 | (u,x)::l,y::vs,t,v,h=>by
  simp only[qOQ,fo] at h
  rcases h with e | e
  ·cases e;exact⟨0,x,rfl,rfl⟩
  ·obtain⟨j,z,h1,h2⟩:=qJE e;exact⟨j+1,z,by simpa using h1,by simpa using h2⟩
theorem qEr{α:Type}:∀{l:List (Nat×α)} {t:Tr α},(∀p∈l,Tr.ok p.1=true)→∀{i:Nat},(∀p∈l,p.1≠i)→(dN l t).get i=t.get i
 | [],t,_,i,_=>rfl
 | (j,x)::l,t,hk,i,h=>by
  simp only[dN]
  rw[Tr.iD (hk (j,x) (by simp)),if_neg (fun e=>h (j,x) (by simp) e.symm)]
  exact qEr (fun p hp=>hk p (by simp[hp])) (fun p hp=>h p (by simp[hp]))
theorem zDx{ls:List Ld}{st st':St reg.T}(hs:∀t∈ls.flatMap Ld.slots,Tr.ok t=true)(hK:(qJD reg ls st).K (·= st')) :
  (∀t,t ∉ ls.flatMap Ld.slots→st'.env.get t=st.env.get t)∧∀{n0:Nat} {F0:Nat→Prop} {φ0:Phi} {H0:Nat→Option (O reg.T)} {w0:World} {a:Act} {w:World},RA n0 F0 φ0 H0 w0 nt st a w→Grow st.hp st'.hp∧RA n0 F0 φ0 H0 w0 nt st' a w:=by
 unfold qJD at hK
 split at hK
 ·cases hK
  exact⟨fun _ _=>rfl,fun h=>⟨Grow.refl _,h⟩⟩
 ·rw[Out.cO] at hK
  obtain⟨r,h1,h2⟩:=(Out.fF _ _).1 hK
  have ht:=zK (h0:=st.hp) h1
  split at h2
  ·rename_i vs hv
   cases h2
   have hz:∀p∈qOQ (gI st.env ls) vs,p.1∈ls.flatMap Ld.slots:=by
    intro p hp
    obtain⟨j,u,e1,_⟩:=qJE (t:=p.1) (v:=p.2) hp
    exact(jE (o8 e1)).2
   refine⟨fun t htn=>qEr (fun p hp=>hs _ (hz p hp)) (fun p hp e=>htn (e▸hz p hp)),fun{n0 F0 φ0 H0 w0 a w} hRA=>?_⟩
   obtain⟨N,F,φ,hN,hR,hG⟩:=hRA
   let cargs:Array Value:=((gI st.env ls).map fun p=>a.tmps.getD p.1 undef).toArray
   have hl:jD F w φ ((gI st.env ls).map (·.2)) cargs:=by
    refine⟨by simp[cargs],fun j hj=>?_⟩
    rw[jc] at hj
    have h3:(gI st.env ls)[j]? = some (gI st.env ls)[j]:=j3 hj
    have h4:=jE (t:=(gI st.env ls)[j].1) (v:=(gI st.env ls)[j].2) (nz hj)
    have h5:=(hR.env _ _ h4.1).2
    simpa [cargs,List.getD,hj] using h5
   obtain⟨v2,h',N',F',φ',e,hv',hH',hG'⟩:=ht.2 N F φ w (.tuple cargs) w ⟨_,st.hp,N,F,φ,rfl,.tup _ cargs hl.1 hl.2,hR.heap,GO.refl hR.heap⟩
   subst e
   have hv:v2=.tup vs:=hv
   subst hv
   cases hv' with
   | tup _ _ hzz hh =>
    refine⟨hG'.grow,RA.go hN hG (st':=⟨dN (qOQ (gI st.env ls) vs) st.env,h'⟩) ⟨fun t v htv=>?_,hR.size,hH',hR.dfs⟩ hG'⟩
    rcases nS (fun p hp=>hs _ (hz p hp)) (show(dN (qOQ (gI st.env ls) vs) st.env).get t=some v from htv) with e1 | e1
    ·obtain⟨j,u,e2,e3⟩:=qJE e1
     have e4:=jE (o8 e2)
     have hj:j<vs.length:=(gu.1 e3).1
     refine⟨(hR.env t u e4.1).1,?_⟩
     have h6:=hh j hj
     have e5:vs.getD j .any=v:=by simp[List.getD,e3]
     have e7:j<(gI st.env ls).length:=(gu.1 e2).1
     have e8:(gI st.env ls)[j]=(t,u):=(gu.1 e2).2
     have e6:cargs.getD j undef=a.tmps.getD t undef:=by simp[cargs,Array.getD,e7,e8]
     rw[e5,e6] at h6
     exact h6
    ·obtain⟨g1,g2⟩:=hR.env t v e1
     exact⟨g1,aI.mono reg (fun b hb=>⟨hG'.goes.fsub b hb,rfl⟩) (fun i p hp=>(hG'.goes.phi i (hR.heap.dom i p hp)).trans hp) g2⟩
  ·exact h2.elim
end
section
universe u
variable {T:Nat→Type}
def qHP{α:Type}{β:Sort u}:Nat→Tr α→Nat→Option α→(Tr α→β)→β
 | 0,t,_,_,k=>k t
 | f+1,t,p,x,k=>(match t with
  | .e=>(match Nat.beq p 1 with
   | true=>k (.n .e x .e)
   | false=>(match Nat.beq (Nat.mod p 2) 0 with
    | true=>qHP f .e (Nat.div p 2) x fun l=>k (.n l none .e)
    | false=>qHP f .e (Nat.div p 2) x fun r=>k (.n .e none r)))
  | .n l v r=>(match Nat.beq p 1 with
   | true=>k (.n l x r)
   | false=>(match Nat.beq (Nat.mod p 2) 0 with
    | true=>qHP f l (Nat.div p 2) x fun l=>k (.n l v r)
    | false=>qHP f r (Nat.div p 2) x fun r=>k (.n l v r))))
theorem qBF{α:Type}{β:Sort u}:∀(f:Nat) (t:Tr α) (p:Nat) (x:Option α) (k:Tr α→β),qHP f t p x k=k (Tr.qDO f t p x)
 | 0,t,p,x,k=>rfl
 | f+1,t,p,x,k=>by
  cases t with
  | e =>
   simp only[qHP,Tr.qDO]
   cases Nat.beq p 1 with
   | true=>rfl
   | false =>
    cases Nat.beq (Nat.mod p 2) 0 with
    | true=>exact qBF f _ _ _ _
    | false=>exact qBF f _ _ _ _
  | n l v r =>
   simp only[qHP,Tr.qDO]
   cases Nat.beq p 1 with
   | true=>rfl
   | false =>
    cases Nat.beq (Nat.mod p 2) 0 with
    | true=>exact qBF f _ _ _ _
    | false=>exact qBF f _ _ _ _
def qLZ{β:Sort u}(st:St T)(dst:Option Nat)(v:V T)(k:St T→β):β:=match dst with
 | some d=>vS v fun v=>qHP 64 st.env (d+1) (some v) fun env=>k ⟨env,st.hp⟩
 | none=>k st
theorem sI{β:Sort u}(st:St T)(dst:Option Nat)(v:V T)(k:St T→β):qLZ st dst v k=k (st.put dst v):=by
 cases dst with
 | none=>rfl
 | some d=>simp only[qLZ];rw[qFo,qBF];rfl
def trH{α:Type}{β:Sort u}(t:Tr α)(k:Tr α→β):β:=match t with
 | .e=>k .e
 | .n l v r=>k (.n l v r)
theorem zMh{α:Type}{β:Sort u}(t:Tr α)(k:Tr α→β):trH t k=k t:=by cases t<;>rfl
def zDy:Op→Bool
 | .move _=>true
 | .assign _=>true
 | .pick _ _ _=>true
 | .fieldAddr _ _ _=>true
 | .load _ _=>true
 | .nilCheck _=>true
 | .binOp _ _ _ _ _=>true
 | .unOp _ _ _=>true
 | .indexAddr _ _ _=>true
 | .index _ _ _=>true
 | .field _ _ _=>true
 | .extract _ _=>true
 | _=>false
def lnH{β:Sort u}(l:List Nat)(k:List Nat→β):β:=match l with
 | []=>k []
 | n::l=>k (n::l)
theorem zDz{β:Sort u}(l:List Nat)(k:List Nat→β):lnH l k=k l:=by cases l<;>rfl
def hpS{β:Sort u}(o:Op)(h:Hp T)(k:Hp T→β):β:=match zDy o with
 | true=>trH h.h fun t=>qJ7 h.nx fun n=>lnH h.wr fun wr=>k ⟨t,n,wr⟩
 | false=>trS oS h.h fun t=>qJ7 h.nx fun n=>lnH h.wr fun wr=>k ⟨t,n,wr⟩
theorem yQ{β:Sort u}(o:Op)(h:Hp T)(k:Hp T→β):hpS o h k=k h:=by
 unfold hpS
 cases zDy o with
 | true=>simp only[];rw[zMh,lU,zDz]
 | false=>simp only[];rw[nU qM8,lU,zDz]
end
def zAs(ops:Array Oper)(o:Oper)(m:Nat):List Oper→Nat→Bool
 | [],_=>true
 | p::ps,n=>(match m.testBit (Nat.sub n 1) with
  | true=>zAs ops o m ps (Nat.sub n 1)
  | false=>(match p.apart ops o with | true=>zAs ops o m ps (Nat.sub n 1) | false=>false))
def qQK(ops:Array Oper):List Oper→List Nat→List Oper→Nat→Bool
 | [],_,_,_=>true
 | _::_,[],_,_=>false
 | o::l,m::ms,prev,n=>(match zAs ops o m prev n with | true=>qQK ops l ms (o::prev) (n+1) | false=>false)
theorem qGU{ops:Array Oper}{o:Oper}{m:Nat}:∀{prev:List Oper} {n:Nat},n=prev.length→zAs ops o m prev n=true→∀(i:Nat) (p:Oper),prev.reverse[i]? = some p→m.testBit i=false→p.apart ops o=true
 | [],_,_,_,i,p,hp,_=>by simp at hp
 | q::ps,n,hn,h,i,p,hp,hm=>by
  have hn1:Nat.sub n 1=ps.length:=by rw[hn];simp
  rw[uo] at hp
  rcases iw i ps.length with hi | hi
  ·rw[jm (by simpa using hi)] at hp
   simp only[zAs] at h
   split at h
   ·exact qGU hn1 h i p hp hm
   ·split at h
    ·exact qGU hn1 h i p hp hm
    ·cases h
  ·rw[jh (by simpa using hi)] at hp
   have hi2:i=ps.length:=by
    have:= (gu.1 hp).1
    simp at this
    omega
   subst hi2
   simp at hp
   subst hp
   simp only[zAs,hn1,hm] at h
   split at h
   ·rename_i hq;exact hq
   ·cases h
theorem qJF{ops:Array Oper}:∀{l:List Oper} {ms:List Nat} {prev:List Oper} {n:Nat},n=prev.length→qQK ops l ms prev n=true→∀(j:Nat) (o:Oper),l[j]? = some o →
  ∃m,ms[j]? = some m∧∀(i:Nat) (p:Oper),(prev.reverse++l)[i]? = some p→i<prev.length+j→m.testBit i=false→p.apart ops o=true
 | [],_,_,_,_,_,j,o,hj=>by simp at hj
 | _::_,[],_,_,_,h,_,_,_=>by simp only[qQK,ji] at h
 | o0::l,m0::ms,prev,n,hn,h,j,o,hj=>by
  simp only[qQK] at h
  split at h
  ·rename_i hr
   cases j with
   | zero =>
    simp at hj
    subst hj
    refine⟨m0,by simp,fun i p hp hi hm=>?_⟩
    rw[jm (by simpa using hi)] at hp
    exact qGU hn hr i p hp hm
   | succ j =>
    obtain⟨m,h1,h2⟩:=qJF (prev:=o0::prev) (n:=n+1) (by simp[hn]) h j o (by simpa using hj)
    refine⟨m,by simpa using h1,fun i p hp hi hm=>h2 i p ?_ (by simp;omega) hm⟩
    rw[uo,mi]
    exact hp
  ·cases h
def qUB(ms:List Nat)(a b:iZ):Bool :=
 match Nat.blt a.at_ b.at_ with
 | true=>(match (ms.getD b.at_ 0).testBit a.at_ with | true=>true | false=>a.apart b)
 | false=>(match Nat.blt b.at_ a.at_ with
  | true=>(match (ms.getD a.at_ 0).testBit b.at_ with | true=>true | false=>b.apart a)
  | false=>true)
def noW(a:iZ):Bool:=match a.wr with | []=>true | _::_=>false
def zM(ops:Array Oper)(tr:List iZ):Bool :=
 match back ops.toList 0&&qQK ops ops.toList (masks ops.toList []) [] 0 with
 | true=>(match tr.all fun f=>Nat.blt f.at_ ops.size with
  | true=>tr.all fun a=>(match noW a with | true=>true | false=>tr.all (qUB (masks ops.toList []) a))
  | false=>false)
 | false=>false
theorem zAt{a b:iZ}(ha:noW a=true)(hb:noW b=true):a.apart b=true:=by
 unfold noW at ha hb
 split at ha
 ·rename_i h1
  split at hb
  ·rename_i h2
   simp[iZ.apart,h1,h2,meets]
  ·cases hb
 ·cases ha
theorem qHQ{ops:Array Oper}{tr:List iZ}(h:zM ops tr=true):qEY ops tr=true:=by
 unfold zM at h
 split at h
 ·rename_i hb
  obtain⟨hb,hs⟩:=o6.1 hb
  split at h
  ·rename_i hl
   unfold qEY
   simp only[hb,jl,fw]
   intro b hbm a ham
   cases hlt:Nat.blt a.at_ b.at_ with
   | false=>rfl
   | true =>
    cases ht:((masks ops.toList []).getD b.at_ 0).testBit a.at_ with
    | true=>simp
    | false =>
     have h1:a.at_<b.at_:=by simpa using hlt
     have h2:b.at_<ops.size:=by simpa using fw.1 hl b hbm
     have e2:ops.toList[b.at_]? = some ops[b.at_]:=by simp[h2]
     have e1:ops.toList[a.at_]? = some (ops[a.at_]'(by omega)):=by simp
     obtain⟨m,hm,hst⟩:=qJF rfl hs b.at_ _ e2
     have hbit:m.testBit a.at_=false:=by simpa [List.getD,hm] using ht
     have hap:(ops[a.at_]'(by omega)).apart ops ops[b.at_]=true:=hst a.at_ _ e1 (by simpa using h1) hbit
     have hdy:a.apart b=true:=by
      have ha:=fw.1 h a ham
      have hb':=fw.1 h b hbm
      cases na:noW a with
      | false =>
       rw[na] at ha
       have:= fw.1 ha b hbm
       unfold qUB at this
       rw[hlt,ht] at this
       exact this
      | true =>
       cases nb:noW b with
       | true=>exact zAt na nb
       | false =>
        rw[nb] at hb'
        have:= fw.1 hb' a ham
        unfold qUB at this
        have hgt:Nat.blt b.at_ a.at_=false:=by
         cases hx:Nat.blt b.at_ a.at_ with
         | false=>rfl
         | true=>have: b.at_<a.at_:=(by simpa using hx);omega
        rw[hgt,hlt,ht] at this
        exact this
     have e1':ops[a.at_]? = some (ops[a.at_]'(by omega)):=by simp
     have e2':ops[b.at_]? = some ops[b.at_]:=by simp[h2]
     simp[e1',e2',hap,hdy]
  ·cases h
 ·cases h
section
variable (reg:Reg) (P:Program)
def qJG(hd:Hd reg.T)(nt:Nat)(ops:Array Oper):List Oper→St reg.T→Out (St reg.T)
 | [],st=>.ret st
 | o::rest,st =>
  match mK nt o.dst with
  | false=>.bad
  | true =>
  let run (st:St reg.T):Out (St reg.T):=(iM P hd o.op (valOf st.env.get) st.hp).bind fun r=>Out.ask (Nat.ble st.hp.nx r.2.nx) (hpS o.op r.2 fun h=>qLZ ⟨st.env,h⟩ o.dst r.1 fun st=>qJG hd nt ops rest st)
  let skip (st:St reg.T):Out (St reg.T):=qLZ st o.dst .undef fun st=>qJG hd nt ops rest st
  match o.guard with
  | none=>run st
  | some (j,want) =>
   match (ops[j]?).bind (·.dst) with
   | none=>.bad
   | some d =>
    match st.env.get d with
    | some (.d (.bool b)) =>
     .br b (match want with | true=>run (st.fix d true) | false=>skip (st.fix d true)) (match want with | true=>skip (st.fix d false) | false=>run (st.fix d false))
    | some .undef=>skip st
    | _=>.bad
def qFu(hd:Hd reg.T)(nt:Nat)(ops:Array Oper):List Oper→Nat→St reg.T→List iZ→Out (St reg.T×List iZ)
 | [],_,st,tr=>.ret (st,tr)
 | o::rest,n,st,tr =>
  match mK nt o.dst with
  | false=>.bad
  | true =>
  let run (st:St reg.T):Out (St reg.T×List iZ) :=
   lnS (fK o.op (valOf st.env.get) st.hp.get) fun l =>
   (iM P hd o.op (valOf st.env.get) (kX st.hp.get st.hp.nx l)).bind fun r=>qJ7 r.2.nx fun nx=>lnS r.2.wr fun wr0 =>
    lnS (r.2.wr++List.range' st.hp.nx (r.2.nx-st.hp.nx)) fun wr =>
    Out.ask (nQ l wr0 st.hp.nx nx) (hpS o.op (st.hp.join r.2 wr) fun h=>qLZ ⟨st.env,h⟩ o.dst r.1 fun st1=>qFu hd nt ops rest (n+1) st1 (⟨n,l,wr,st.hp.nx,nx⟩::tr))
  let skip (st:St reg.T):Out (St reg.T×List iZ):=qLZ st o.dst .undef fun st1=>qFu hd nt ops rest (n+1) st1 (⟨n,[],[],st.hp.nx,st.hp.nx⟩::tr)
  match o.guard with
  | none=>run st
  | some (j,want) =>
   match (ops[j]?).bind (·.dst) with
   | none=>.bad
   | some d =>
    match st.env.get d with
    | some (.d (.bool b)) =>
     .br b (match want with | true=>run (st.fix d true) | false=>skip (st.fix d true)) (match want with | true=>skip (st.fix d false) | false=>run (st.fix d false))
    | some .undef=>skip st
    | _=>.bad
def qOR(hd:Hd reg.T)(nt:Nat)(ops:Array Oper)(draw:Bool)(st:St reg.T):Out (St reg.T) :=
 match draw with
 | false=>qJG reg P hd nt ops ops.toList st
 | true=>(qFu reg P hd nt ops ops.toList 0 st []).bind fun r=>Out.ask (zM ops r.2) (.ret r.1)
end
section
variable {reg:Reg} {P:Program}
theorem qMD(hd:Hd reg.T)(nt:Nat)(ops:Array Oper):∀(l:List Oper) (st:St reg.T),qJG reg P hd nt ops l st=jK P hd nt ops l st
 | [],st=>rfl
 | o::rest,st=>by
  have ih:=qMD hd nt ops rest
  simp only[qJG,jK,yQ,sI,ih]
  rfl
theorem qJH(hd:Hd reg.T)(nt:Nat)(ops:Array Oper):∀(l:List Oper) (n:Nat) (st:St reg.T) (tr:List iZ),qFu reg P hd nt ops l n st tr=jY P hd nt ops l n st tr
 | [],n,st,tr=>rfl
 | o::rest,n,st,tr=>by
  have ih:=qJH hd nt ops rest
  simp only[qFu,jY,yQ,sI,qEo,lU,ih]
  rfl
theorem qQL{hd:Hd reg.T}{nt:Nat}{ops:Array Oper}{draw:Bool}{st:St reg.T}{Q:St reg.T→Prop}(h:(qOR reg P hd nt ops draw st).K Q):(vQ P hd nt ops draw st).K Q:=by
 cases draw with
 | false=>rw[qOR,qMD] at h;exact h
 | true =>
  simp only[qOR,vQ,qJH,Out.cO] at h ⊢
  exact Out.eU h fun r hr=>by
   obtain⟨h1,h2⟩:=Out.dR.1 hr
   exact Out.dR.2 ⟨qHQ h1,h2⟩
end
section
variable (reg:Reg) (P:Program)
def defs:Code→List Nat
 | .region _ ops _=>ops.toList.filterMap (·.dst)
 | .seq a b=>defs a++defs b
 | .cond _ a b=>defs a++defs b
 | .block _ c=>defs c
 | .loop c=>defs c
 | .scope c=>defs c
 | _=>[]
def zD0{T:Nat→Type}{α:Type}(k:St T→DT α)(Q:aQ×St T→DT α)(r:aQ×St T):DT α:=match r.1 with
 | .normal=>k r.2
 | _=>Q r
def qOS{T:Nat→Type}{α:Type}(id:Nat)(Q:aQ×St T→DT α)(r:aQ×St T):DT α:=match r.1 with
 | .exit j=>(match Nat.beq j id with | true=>Q (.normal,r.2) | false=>Q r)
 | _=>Q r
def qHR{α:Type}(n0:Nat)(D:List Nat)(ls:List Ld)(st:St reg.T)(k:aQ×St reg.T→DT α)(r:aQ×St reg.T):DT (Sg reg ls ⊕ α):=match r.1 with
 | .normal=>DT.dU (qJD reg ls r.2) fun st2=>(match yP reg ls st2 with
  | some (b,s,ρ)=>(match qHN reg n0 D ls st ρ st2 with | true=>qFq b (.ret (.inl s)) | false=>.bad)
  | none=>.bad)
 | .exit id=>(k (.exit id,r.2)).map .inr
 | .ret=>(k (.ret,r.2)).map .inr
def qQM{T:Nat→Type}{α:Type}(body:(aQ×St T→DT α)→St T→DT α):Nat→(aQ×St T→DT α)→St T→DT α
 | 0,_,_=>.bad
 | n+1,k,st=>body (zD0 (qQM body n k) k) st
abbrev ExR(T:Nat→Type):=Array Oper→Bool→St T→(α:Type)→(St T→DT α)→DT α
def nC(ex:ExR reg.T)(fuel n0:Nat)(L J:Nat→St reg.T→Option (List Ld)):Code→{α:Type}→(aQ×St reg.T→DT α)→St reg.T→DT α
 | .skip,_,k,st=>k (.normal,st)
 | .region _ ops draw,_,k,st=>ex ops draw st _ fun st=>k (.normal,st)
 | .seq a b,_,k,st=>(match J (xM b) st with
  | none=>nC ex fuel n0 L J a (zD0 (nC ex fuel n0 L J b k) k) st
  | some ls=>(match qIu (defs a) ls with
   | true=>.join (nC ex fuel n0 L J a (qHR reg n0 (defs a) ls st k) st) (fun s=>stS (qIt reg (defs a) ls st s) fun st=>nC ex fuel n0 L J b k st)
   | false=>.bad))
 | .cond c a b,_,k,st=>(match c with
  | .tmp t=>(match st.env.get t with
   | some (.d (.bool v))=>.br v (nC ex fuel n0 L J a k (st.fix t true)) (nC ex fuel n0 L J b k (st.fix t false))
   | _=>.bad)
  | _=>.bad)
 | .block id c,_,k,st=>nC ex fuel n0 L J c (qOS id k) st
 | .loop c,_,k,st=>(match L (xM c) st with
  | none=>qQM (fun k st=>nC ex fuel n0 L J c k st) fuel k st
  | some ls=>(match qIu (defs c) ls with
   | true=>DT.dU (qJD reg ls st) fun st=>stS st fun st=>(match yP reg ls st with
    | some (b,s0,ρ)=>(match qHN reg n0 (defs c) ls st ρ st with
     | true=>qFq b (.loop s0 fun s=>stS (qIt reg (defs c) ls st s) fun st1=>nC ex fuel n0 L J c (qHR reg n0 (defs c) ls st k) st1)
     | false=>.bad)
    | none=>.bad)
   | false=>.bad))
 | .exit id,_,k,st=>k (.exit id,st)
 | .ret,_,k,st=>k (.ret,st)
 | .scope c,_,k,st=>nC ex fuel n0 L J c k st
 | .label _,_,k,st=>k (.normal,st)
 | _,_,_,_=>.bad
def exD(hd:Hd reg.T)(nt:Nat):ExR reg.T:=fun ops draw st _ k=>DT.dU (qOR reg P hd nt ops draw st) k
def awd(hd:Hd reg.T)(nt fuel n0:Nat)(L J:Nat→St reg.T→Option (List Ld))(c:Code){α:Type}(k:aQ×St reg.T→DT α)(st:St reg.T):DT α:=nC reg (exD reg P hd nt) fuel n0 L J c k st
def noL{T:Nat→Type}(_:Nat)(_:St T):Option (List Ld):=none
def qOT{α:Type}(hd:Hd reg.T)(fuel:Nat)(L J:Nat→St reg.T→Option (List Ld))(fn:Func)(args:List (V reg.T))(h:Hp reg.T)(k:V reg.T×Hp reg.T→DT α):DT α :=
 match fn.body with
 | none=>.bad
 | some c=>(match Nat.ble args.length fn.ntmps&&Nat.ble fn.ntmps 1000000 with
  | true=>awd reg P hd fn.ntmps fuel h.nx L J c (fun r=>DT.dU ((qH P fn r).bind fun q=>lD reg ⟨h.h,h.nx,[]⟩ (q.1,⟨q.2.h,q.2.nx,List.range h.nx⟩)) k) ⟨iN args 0 .e,h⟩
  | false=>.bad)
end
section
variable {reg:Reg} {P:Program} {hd:Hd reg.T} {nt:Nat}
def bY(D:List Nat)(st st':St reg.T):Prop:=∀t,kN D t=false→st'.env.get t=st.env.get t
theorem bY.refl(D:List Nat)(st:St reg.T):bY D st st:=fun _ _=>rfl
theorem bY.trans{D:List Nat}{a b c:St reg.T}(h1:bY D a b)(h2:bY D b c):bY D a c:=fun t ht=>(h2 t ht).trans (h1 t ht)
theorem zD1{D D':List Nat}(h:∀t∈D,t∈D'){t:Nat}(ht:kN D' t=false):kN D t=false:=by
 cases hb:kN D t with
 | false=>rfl
 | true=>rw[gP.2 (h t (gP.1 hb))] at ht;cases ht
theorem bY.sub{D D':List Nat}{a b:St reg.T}(h:bY D a b)(hs:∀t∈D,t∈D'):bY D' a b:=fun t ht=>h t (zD1 hs ht)
theorem zN(hnt:nt≤1000000){o:Oper}{l:List Oper}(hd':mK nt o.dst=true)(st:St reg.T)(v:V reg.T):bY ((o::l).filterMap (·.dst)) st (st.put o.dst v):=by
 intro t ht
 cases hdst:o.dst with
 | none=>rfl
 | some d =>
  rw[hdst] at hd'
  have hlt:d<nt:=bu hd'
  have hok:Tr.ok d=true:=ik (show d+1≤9223372036854775807 from bq hlt (bq hnt (by decide)))
  show(st.env.set d (some v)).get t=_
  rw[Tr.iD hok,if_neg]
  intro e
  subst e
  have: kN ((o::l).filterMap (·.dst)) t=true:=gP.2 (by simp[hdst])
  rw[this] at ht;cases ht
theorem zO{o:Oper}{l:List Oper}{a b:St reg.T}(h:bY (l.filterMap (·.dst)) a b):bY ((o::l).filterMap (·.dst)) a b :=
 h.sub fun t ht=>by
  simp only[List.mem_filterMap] at ht ⊢
  obtain⟨x,hx,e⟩:=ht
  exact⟨x,by simp[hx],e⟩
theorem qEs(hnt:nt≤1000000){ops:Array Oper}:∀(rest:List Oper) (st:St reg.T) (Q:St reg.T→Prop),(jK P hd nt ops rest st).K Q→(jK P hd nt ops rest st).K fun st'=>Q st'∧bY (rest.filterMap (·.dst)) st st'
 | [],st,Q,h=>⟨h,bY.refl _ _⟩
 | o::rest,st,Q,h=>by
  simp only[jK] at h ⊢
  cases hdo:mK nt o.dst with
  | false=>rw[hdo] at h;exact h.elim
  | true =>
   rw[hdo] at h
   simp only at h ⊢
   have run:∀st1:St reg.T,bY ((o::rest).filterMap (·.dst)) st st1→((iM P hd o.op (valOf st1.env.get) st1.hp).bind fun r=>Out.ask (Nat.ble st1.hp.nx r.2.nx) (jK P hd nt ops rest (St.put ⟨st1.env,r.2⟩ o.dst r.1))).K Q →
     ((iM P hd o.op (valOf st1.env.get) st1.hp).bind fun r=>Out.ask (Nat.ble st1.hp.nx r.2.nx) (jK P hd nt ops rest (St.put ⟨st1.env,r.2⟩ o.dst r.1))).K fun st'=>Q st'∧bY ((o::rest).filterMap (·.dst)) st st':=by
    intro st1 hk h
    rw[Out.cO] at h ⊢
    refine Out.eU h fun r hr=>?_
    obtain⟨h1,h2⟩:=Out.dR.1 hr
    refine Out.dR.2 ⟨h1,Out.eU (qEs hnt rest _ Q h2) fun st' h3=>⟨h3.1,hk.trans ?_⟩⟩
    have h4:bY ((o::rest).filterMap (·.dst)) st1 (St.put ⟨st1.env,r.2⟩ o.dst r.1):=zN (l:=rest) hnt hdo ⟨st1.env,r.2⟩ r.1
    exact h4.trans (zO h3.2)
   have skip:∀st1:St reg.T,bY ((o::rest).filterMap (·.dst)) st st1→(jK P hd nt ops rest (st1.put o.dst .undef)).K Q→(jK P hd nt ops rest (st1.put o.dst .undef)).K fun st'=>Q st'∧bY ((o::rest).filterMap (·.dst)) st st':=by
    intro st1 hk h
    exact Out.eU (qEs hnt rest _ Q h) fun st' h3=>⟨h3.1,(hk.trans (zN (l:=rest) hnt hdo st1 .undef)).trans (zO h3.2)⟩
   split at h
   ·exact run st (bY.refl _ _) h
   ·rename_i j want hg
    split at h
    ·exact h.elim
    ·rename_i d hd'
     split at h
     ·rename_i b hb
      cases b with
      | true =>
       have hf:=St.jJ hb
       simp only[Out.K,branch] at h ⊢
       rw[hf] at h ⊢
       cases want with
       | true=>exact run st (bY.refl _ _) h
       | false=>exact skip st (bY.refl _ _) h
      | false =>
       have hf:=St.jJ hb
       simp only[Out.K,branch] at h ⊢
       rw[hf] at h ⊢
       cases want with
       | true=>exact skip st (bY.refl _ _) h
       | false=>exact run st (bY.refl _ _) h
     ·exact skip st (bY.refl _ _) h
     ·exact h.elim
theorem qBG(hnt:nt≤1000000){ops:Array Oper}:∀(rest:List Oper) (n:Nat) (st:St reg.T) (tr:List iZ) (Q:St reg.T×List iZ→Prop),(jY P hd nt ops rest n st tr).K Q→(jY P hd nt ops rest n st tr).K fun r=>Q r∧bY (rest.filterMap (·.dst)) st r.1
 | [],n,st,tr,Q,h=>⟨h,bY.refl _ _⟩
 | o::rest,n,st,tr,Q,h=>by
  simp only[jY] at h ⊢
  cases hdo:mK nt o.dst with
  | false=>rw[hdo] at h;exact h.elim
  | true =>
   rw[hdo] at h
   simp only at h ⊢
   have run:∀st1:St reg.T,bY ((o::rest).filterMap (·.dst)) st st1→((iM P hd o.op (valOf st1.env.get) (kX st1.hp.get st1.hp.nx (fK o.op (valOf st1.env.get) st1.hp.get))).bind fun r =>
      Out.ask (nQ (fK o.op (valOf st1.env.get) st1.hp.get) r.2.wr st1.hp.nx r.2.nx) (jY P hd nt ops rest (n+1) (St.put ⟨st1.env,st1.hp.join r.2 (r.2.wr++List.range' st1.hp.nx (r.2.nx-st1.hp.nx))⟩ o.dst r.1) (⟨n,fK o.op (valOf st1.env.get) st1.hp.get,r.2.wr++List.range' st1.hp.nx (r.2.nx-st1.hp.nx),st1.hp.nx,r.2.nx⟩::tr))).K Q →
     ((iM P hd o.op (valOf st1.env.get) (kX st1.hp.get st1.hp.nx (fK o.op (valOf st1.env.get) st1.hp.get))).bind fun r =>
      Out.ask (nQ (fK o.op (valOf st1.env.get) st1.hp.get) r.2.wr st1.hp.nx r.2.nx) (jY P hd nt ops rest (n+1) (St.put ⟨st1.env,st1.hp.join r.2 (r.2.wr++List.range' st1.hp.nx (r.2.nx-st1.hp.nx))⟩ o.dst r.1) (⟨n,fK o.op (valOf st1.env.get) st1.hp.get,r.2.wr++List.range' st1.hp.nx (r.2.nx-st1.hp.nx),st1.hp.nx,r.2.nx⟩::tr))).K fun r=>Q r∧bY ((o::rest).filterMap (·.dst)) st r.1:=by
    intro st1 hk h
    rw[Out.cO] at h ⊢
    refine Out.eU h fun r hr=>?_
    obtain⟨h1,h2⟩:=Out.dR.1 hr
    refine Out.dR.2 ⟨h1,Out.eU (qBG hnt rest _ _ _ Q h2) fun st' h3=>⟨h3.1,hk.trans ?_⟩⟩
    have h4:bY ((o::rest).filterMap (·.dst)) st1 (St.put ⟨st1.env,st1.hp.join r.2 (r.2.wr++List.range' st1.hp.nx (r.2.nx-st1.hp.nx))⟩ o.dst r.1):=zN (l:=rest) hnt hdo ⟨st1.env,_⟩ r.1
    exact h4.trans (zO h3.2)
   have skip:∀st1:St reg.T,bY ((o::rest).filterMap (·.dst)) st st1→(jY P hd nt ops rest (n+1) (st1.put o.dst .undef) (⟨n,[],[],st1.hp.nx,st1.hp.nx⟩::tr)).K Q→(jY P hd nt ops rest (n+1) (st1.put o.dst .undef) (⟨n,[],[],st1.hp.nx,st1.hp.nx⟩::tr)).K fun r=>Q r∧bY ((o::rest).filterMap (·.dst)) st r.1:=by
    intro st1 hk h
    exact Out.eU (qBG hnt rest _ _ _ Q h) fun st' h3=>⟨h3.1,(hk.trans (zN (l:=rest) hnt hdo st1 .undef)).trans (zO h3.2)⟩
   split at h
   ·exact run st (bY.refl _ _) h
   ·rename_i j want hg
    split at h
    ·exact h.elim
    ·rename_i d hd'
     split at h
     ·rename_i b hb
      cases b with
      | true =>
       have hf:=St.jJ hb
       simp only[Out.K,branch] at h ⊢
       rw[hf] at h ⊢
       cases want with
       | true=>exact run st (bY.refl _ _) h
       | false=>exact skip st (bY.refl _ _) h
      | false =>
       have hf:=St.jJ hb
       simp only[Out.K,branch] at h ⊢
       rw[hf] at h ⊢
       cases want with
       | true=>exact skip st (bY.refl _ _) h
       | false=>exact run st (bY.refl _ _) h
     ·exact skip st (bY.refl _ _) h
     ·exact h.elim
theorem qUC(hnt:nt≤1000000){ops:Array Oper}{draw:Bool}{st:St reg.T}{Q:St reg.T→Prop}(h:(vQ P hd nt ops draw st).K Q):(vQ P hd nt ops draw st).K fun st'=>Q st'∧bY (ops.toList.filterMap (·.dst)) st st':=by
 unfold vQ at h ⊢
 cases draw with
 | false=>exact qEs hnt _ _ _ h
 | true =>
  simp only at h ⊢
  rw[Out.cO] at h ⊢
  refine Out.eU (qBG hnt _ _ _ _ _ h) fun r hr=>?_
  obtain⟨h1,h2⟩:=Out.dR.1 hr.1
  exact Out.dR.2 ⟨h1,h2,hr.2⟩
def pE{α:Type}(n0:Nat)(F0:Nat→Prop)(φ0:Phi)(H0:Nat→Option (O reg.T))(w0:World)(nt:Nat)(D:List Nat)(st:St reg.T)(k:aQ×St reg.T→DT α)(x:α)(e:aQ)(a:Act)(w:World):Prop :=
 ∃st',(k (e,st')).G x∧bY D st st'∧Grow st.hp st'.hp∧RA n0 F0 φ0 H0 w0 nt st' a w
def qQN{α:Type}(n0:Nat)(F0:Nat→Prop)(φ0:Phi)(H0:Nat→Option (O reg.T))(w0:World)(nt:Nat)(D:List Nat)(st:St reg.T)(k:aQ×St reg.T→DT α)(x:α):Exit→Act→World→Prop
 | .normal,a,w=>pE n0 F0 φ0 H0 w0 nt D st k x .normal a w
 | .exit id,a,w=>pE n0 F0 φ0 H0 w0 nt D st k x (.exit id) a w
 | .ret,a,w=>pE n0 F0 φ0 H0 w0 nt D st k x .ret a w
 | _,_,_=>False
theorem pE.from{α:Type}{n0:Nat}{F0:Nat→Prop}{φ0:Phi}{H0:Nat→Option (O reg.T)}{w0:World}{D D':List Nat}{st st1:St reg.T}{k:aQ×St reg.T→DT α}{x:α}{e:aQ}{a:Act}{w:World}(h:pE n0 F0 φ0 H0 w0 nt D st1 k x e a w)(hs:∀t∈D,t∈D')
  (hk:bY D' st st1) (hg:Grow st.hp st1.hp):pE n0 F0 φ0 H0 w0 nt D' st k x e a w:=by
 obtain⟨st',h1,h2,h3,h4⟩:=h
 exact⟨st',h1,hk.trans (h2.sub hs),hg.trans h3,h4⟩
theorem RA.lt{n0:Nat}{F0:Nat→Prop}{φ0:Phi}{H0:Nat→Option (O reg.T)}{w0:World}{st:St reg.T}{a:Act}{w:World}(h:RA n0 F0 φ0 H0 w0 nt st a w):∀i o,st.hp.get i=some o→i<st.hp.nx:=by
 obtain⟨N,F,φ,hN,hR,_⟩:=h
 intro i o hi
 exact hN i (hR.heap.lt i o hi)
theorem zD2{st st':St reg.T}{l:List Nat}(h:st'.hp.wr=l++st.hp.wr):qX7 reg st st' = l:=by
 unfold qX7
 rw[h,dh,Nat.add_sub_cancel]
 simp
theorem zAu{st st1 st2:St reg.T}{names:List Nat}(hw:(qX7 reg st st2).all (fun i=>Nat.ble st.hp.nx i||kN names i)=true)(hg:Grow st.hp st2.hp):∀i,i<st.hp.nx→kN names i=false→st2.hp.get i=st.hp.get i:=by
 obtain⟨g1,l,g2,g3⟩:=hg
 intro i hi hn
 refine g3 i (fun hm=>?_) (by omega)
 rw[zD2 g2] at hw
 simp only[fw,ni] at hw
 rcases hw i hm with h | h
 ·have: st.hp.nx≤i:=bu h;omega
 ·rw[hn] at h;cases h
theorem qOU{n0:Nat}{F0:Nat→Prop}{φ0:Phi}{H0:Nat→Option (O reg.T)}{w0:World}{D:List Nat}{ls:List Ld}{st st2:St reg.T}{s:Sg reg ls}{ρ:Rho}{b:Ob}(hs:qIu D ls=true)(hc:qHN reg n0 D ls st ρ st2=true)
  (hr:yP reg ls st2=some (b,s,ρ)) (hb:okO b=true) (hlt:∀i o,st.hp.get i=some o→i<st.hp.nx) (hK:bY D st st2) (hg:Grow st.hp st2.hp) {a:Act} {w:World} (hR:RA n0 F0 φ0 H0 w0 nt st2 a w):RA n0 F0 φ0 H0 w0 nt (qIt reg D ls st s) a w:=by
 refine zMg hs hc hr hb hlt hK ?_ hR
 unfold qHN at hc
 simp only[bn] at hc
 exact zAu (st1:=st) hc.1.1.2 hg
theorem wC{D:List Nat}{ls:List Ld}(hs:qIu D ls=true){st:St reg.T}{s:Sg reg ls}:bY D st (qIt reg D ls st s):=fun _ ht=>zAr hs ht
theorem zD3{α:Type}{b:Bool}{t u:DT α}{x:α}:(DT.br b t u).G x↔(b=true→t.G x)∧(b=false→u.G x):=jW _ _ _
theorem qUD{n0:Nat}{F0:Nat→Prop}{φ0:Phi}{H0:Nat→Option (O reg.T)}{w0:World}{D:List Nat}{ls:List Ld}{st st1 st2:St reg.T}(hs:qIu D ls=true)(hf:(qJD reg ls st1).K (·= st2))(hK:bY D st st1)(hg:Grow st.hp st1.hp){a:Act}{w:World}(hR:RA n0 F0 φ0 H0 w0 nt st1 a w) :
  bY D st st2∧Grow st.hp st2.hp∧RA n0 F0 φ0 H0 w0 nt st2 a w:=by
 obtain⟨h1,h2,h3⟩:=qDa hs
 obtain⟨f1,f2⟩:=zDx (nt:=nt) (fun t ht=>h1 _ (h2 _ ht)) hf
 obtain⟨f3,f4⟩:=f2 hR
 refine⟨hK.trans fun t ht=>f1 t fun hm=>?_,hg.trans f3,f4⟩
 have:= gP.2 (h2 _ hm)
 rw[this] at ht;cases ht
def zLt{α:Type}(n0:Nat)(F0:Nat→Prop)(φ0:Phi)(H0:Nat→Option (O reg.T))(w0:World)(nt:Nat)(D:List Nat)(st:St reg.T)(k:St reg.T→DT α)(x:α):Exit→Act→World→Prop
 | .normal,a,w=>∃st',(k st').G x∧bY D st st'∧Grow st.hp st'.hp∧RA n0 F0 φ0 H0 w0 nt st' a w
 | _,_,_=>False
def qBH(P:Program)(nt:Nat)(ex:ExR reg.T):Prop:=∀id ops draw st (α:Type) (k:St reg.T→DT α) (x:α),(ex ops draw st α k).G x→∀{n0:Nat} {F0:Nat→Prop} {φ0:Phi} {H0:Nat→Option (O reg.T)} {w0:World} {a:Act} {w:World},RA n0 F0 φ0 H0 w0 nt st a w →
 (Code.region id ops draw).wp P (zLt n0 F0 φ0 H0 w0 nt (ops.toList.filterMap (·.dst)) st k x) a w
theorem qBI(hm:P.follows .mixedOrders=true)(hHd:bI P hd)(hnt:nt≤1000000){ex:ExR reg.T}(hex:∀ops draw st (α:Type) (k:St reg.T→DT α) (x:α),(ex ops draw st α k).G x→(vQ P hd nt ops draw st).K fun st=>(k st).G x):qBH P nt ex:=by
 intro id ops draw st α k x h n0 F0 φ0 H0 w0 a w hR
 obtain⟨N,F,φ,hN,hR,hG⟩:=hR
 have h:=qUC hnt (hex _ _ _ _ _ _ h)
 exact qQ7 hm hHd hnt h hR (fun st' _=>zAp hN _) (fun st' N' F' φ' a' w' hq hR' hG'=>⟨st',hq.1,hq.2,hG'.grow,RA.go hN hG hR' hG'⟩)
theorem qV{ex:ExR reg.T}(hreg:qBH P nt ex){fuel:Nat}{L J:Nat→St reg.T→Option (List Ld)}{n0:Nat}{F0:Nat→Prop}{φ0:Phi}{H0:Nat→Option (O reg.T)}{w0:World}:∀(c:Code) {α:Type} (k:aQ×St reg.T→DT α) (st:St reg.T) (x:α),(nC reg ex fuel n0 L J c k st).G x →
  ∀{a:Act} {w:World},RA n0 F0 φ0 H0 w0 nt st a w→c.wp P (qQN n0 F0 φ0 H0 w0 nt (defs c) st k x) a w:=by
 intro c
 induction c with
 | skip=>intro α k st x h a w hR;exact wp_skip ⟨st,h,bY.refl _ _,Grow.refl _,hR⟩
 | region id ops draw =>
  intro α k st x h a w hR
  refine wp_mono (hreg id ops draw st _ _ x h hR) fun e a' w' he=>?_
  cases e with
  | normal =>
   obtain⟨st',h1,h2,h3,h4⟩:=he
   exact⟨st',h1,h2,h3,h4⟩
  | exit id=>exact he.elim
  | ret=>exact he.elim
  | goto l=>exact he.elim
  | panic c=>exact he.elim
  | outgrown=>exact he.elim
 | seq c1 c2 ih1 ih2 =>
  intro α k st x h a w hR
  simp only[nC] at h
  have s1:∀t∈defs c1,t∈defs (.seq c1 c2):=fun t ht=>by simp[defs,ht]
  have s2:∀t∈defs c2,t∈defs (.seq c1 c2):=fun t ht=>by simp[defs,ht]
  split at h
  ·refine wp_seq (wp_mono (ih1 _ st x h hR) fun e a' w' he=>?_)
   cases e with
   | normal =>
    obtain⟨st',h1,h2,h3,h4⟩:=he
    refine wp_mono (ih2 k st' x h1 h4) fun e a' w' he=>?_
    cases e with
    | normal=>exact pE.from he s2 (h2.sub s1) h3
    | exit id=>exact pE.from he s2 (h2.sub s1) h3
    | ret=>exact pE.from he s2 (h2.sub s1) h3
    | goto l=>exact he
    | panic c=>exact he
    | outgrown=>exact he
   | exit id=>exact pE.from he s1 (bY.refl _ _) (Grow.refl _)
   | ret=>exact pE.from he s1 (bY.refl _ _) (Grow.refl _)
   | goto l=>exact he
   | panic c=>exact he
   | outgrown=>exact he
  ·rename_i ls _
   split at h
   ·rename_i hs
    obtain⟨y,h1,h2⟩:=DT.lG.1 h
    refine wp_seq (wp_mono (ih1 _ st y h1 hR) fun e a' w' he=>?_)
    have out:∀e,(e=.ret∨∃id,e=.exit id)→pE n0 F0 φ0 H0 w0 nt (defs c1) st (qHR reg n0 (defs c1) ls st k) y e a' w'→pE n0 F0 φ0 H0 w0 nt (defs (.seq c1 c2)) st k x e a' w':=by
     rintro e hee ⟨st',h3,h4,h5,h6⟩
     have h7:((k (e,st')).map (Sum.inr:α→Sg reg ls ⊕ α)).G y:=by
      rcases hee with rfl | ⟨id,rfl⟩<;>exact h3
     obtain⟨x',h8,h9⟩:=DT.qM7 _ _ (fun _ _ h=>Sum.inr.inj h) _ h7
     subst h9
     have h2:x' = x:=h2
     subst h2
     exact⟨st',h8,h4.sub s1,h5,h6⟩
    cases e with
    | normal =>
     obtain⟨st',h3,h4,h5,h6⟩:=he
     simp only[qHR] at h3
     obtain⟨st2,hf,h3⟩:=(Out.fF _ _).1 (DT.iE h3)
     obtain⟨h4,h5,h6⟩:=qUD hs hf h4 h5 h6
     split at h3
     ·rename_i b s ρ hr
      split at h3
      ·rename_i hc
       obtain⟨hb,h3⟩:=uR h3
       have h3:(Sum.inl s:Sg reg ls ⊕ α)=y:=h3
       subst h3
       have h2:(stS (qIt reg (defs c1) ls st s) fun st=>nC reg ex fuel n0 L J c2 k st).G x:=h2
       rw[qJ8] at h2
       have hRA:=qOU hs hc hr hb hR.lt h4 h5 h6
       refine wp_mono (ih2 k _ x h2 hRA) fun e a' w' he=>?_
       cases e with
       | normal=>exact pE.from he s2 ((wC hs).sub s1) (zL hs)
       | exit id=>exact pE.from he s2 ((wC hs).sub s1) (zL hs)
       | ret=>exact pE.from he s2 ((wC hs).sub s1) (zL hs)
       | goto l=>exact he
       | panic c=>exact he
       | outgrown=>exact he
      ·exact h3.elim
     ·exact h3.elim
    | exit id=>exact out _ (.inr ⟨id,rfl⟩) he
    | ret=>exact out _ (.inl rfl) he
    | goto l=>exact he
    | panic c=>exact he
    | outgrown=>exact he
   ·exact h.elim
 | cond o c1 c2 ih1 ih2 =>
  intro α k st x h a w hR
  simp only[nC] at h
  have s1:∀t∈defs c1,t∈defs (.cond o c1 c2):=fun t ht=>by simp[defs,ht]
  have s2:∀t∈defs c2,t∈defs (.cond o c1 c2):=fun t ht=>by simp[defs,ht]
  have up:∀{D:List Nat} {e:Exit} {a:Act} {w:World},(∀t∈D,t∈defs (.cond o c1 c2))→qQN n0 F0 φ0 H0 w0 nt D st k x e a w→qQN n0 F0 φ0 H0 w0 nt (defs (.cond o c1 c2)) st k x e a w:=by
   intro D e a w hs he
   cases e with
   | normal=>exact pE.from he hs (bY.refl _ _) (Grow.refl _)
   | exit id=>exact pE.from he hs (bY.refl _ _) (Grow.refl _)
   | ret=>exact pE.from he hs (bY.refl _ _) (Grow.refl _)
   | goto l=>exact he
   | panic c=>exact he
   | outgrown=>exact he
  split at h
  ·rename_i t
   split at h
   ·rename_i v hv
    have hR':=hR
    obtain⟨N,F,φ,hN,hR',hG⟩:=hR'
    have he:a.eval (.tmp t)=.bool v:=(vF hR' (x:=.tmp t) hv).kG
    cases v with
    | true =>
     have h:=(zD3.1 h).1 rfl
     rw[St.jJ hv] at h
     exact wp_cond_true he (wp_mono (ih1 k st x h hR) fun e a' w' he=>up s1 he)
    | false =>
     have h:=(zD3.1 h).2 rfl
     rw[St.jJ hv] at h
     exact wp_cond_false he (wp_mono (ih2 k st x h hR) fun e a' w' he=>up s2 he)
   ·exact h.elim
  ·exact h.elim
 | block id c ih =>
  intro α k st x h a w hR
  refine wp_block (wp_mono (ih _ st x h hR) fun e a' w' he=>?_)
  cases e with
  | normal=>exact he
  | exit j =>
   obtain⟨st',h1,h2⟩:=he
   simp only[qOS] at h1
   cases hb:Nat.beq j id with
   | true =>
    rw[hb] at h1
    have: j=id:=cu hb
    simp only[Exit.inBlock,this,if_true]
    exact⟨st',h1,h2⟩
   | false =>
    rw[hb] at h1
    have: j≠id:=fun e=>by subst e;simp[lg] at hb
    simp only[Exit.inBlock,this,if_false]
    exact⟨st',h1,h2⟩
  | ret=>exact he
  | goto l=>exact he
  | panic c=>exact he
  | outgrown=>exact he
 | exit id=>intro α k st x h a w hR;exact wp_exit ⟨st,h,bY.refl _ _,Grow.refl _,hR⟩
 | ret=>intro α k st x h a w hR;exact wp_ret ⟨st,h,bY.refl _ _,Grow.refl _,hR⟩
 | loop c ih =>
  intro α k st x h a w hR
  simp only[nC] at h
  split at h
  ·refine wp_loop_ghost (fun n a w=>∃st1,(qQM (fun k st=>nC reg ex fuel n0 L J c k st) n k st1).G x∧bY (defs c) st st1∧Grow st.hp st1.hp∧RA n0 F0 φ0 H0 w0 nt st1 a w) fuel ⟨st,h,bY.refl _ _,Grow.refl _,hR⟩ ?_
   rintro n a w ⟨st1,h1,h2,h3,h4⟩
   cases n with
   | zero=>exact h1.elim
   | succ n =>
    simp only[qQM] at h1
    refine wp_mono (ih _ st1 x h1 h4) fun e a' w' he=>?_
    cases e with
    | normal =>
     obtain⟨st',g1,g2,g3,g4⟩:=he
     exact⟨n,jy n,st',g1,h2.trans g2,h3.trans g3,g4⟩
    | exit id=>exact pE.from he (fun _ h=>h) h2 h3
    | ret=>exact pE.from he (fun _ h=>h) h2 h3
    | goto l=>exact he
    | panic c=>exact he
    | outgrown=>exact he
  ·rename_i ls _
   split at h
   ·rename_i hs
    obtain⟨stf,hf,h⟩:=(Out.fF _ _).1 (DT.iE h)
    rw[qJ8] at h
    obtain⟨kf,gf,hR⟩:=qUD hs hf (bY.refl (defs c) st) (Grow.refl _) hR
    refine wp_mono (?_:(Code.loop c).wp P (qQN n0 F0 φ0 H0 w0 nt (defs (.loop c)) stf k x) a w) fun e a' w' he=>(by
     cases e with
     | normal=>exact pE.from he (fun _ h=>h) kf gf
     | exit id=>exact pE.from he (fun _ h=>h) kf gf
     | ret=>exact pE.from he (fun _ h=>h) kf gf
     | goto l=>exact he
     | panic c=>exact he
     | outgrown=>exact he)
    clear kf gf hf
    generalize stf=st at h hR ⊢
    split at h
    ·rename_i b s0 ρ hr
     split at h
     ·rename_i hc
      obtain⟨hb,h⟩:=uR h
      obtain⟨n,hn⟩:=DT.pF.1 h
      have h0:=qOU hs hc hr hb hR.lt (bY.refl _ _) (Grow.refl _) hR
      refine wp_loop_ghost (fun n a w=>∃s,DT.yO (fun s y=>(stS (qIt reg (defs c) ls st s) fun st1=>nC reg ex fuel n0 L J c (qHR reg n0 (defs c) ls st k) st1).G y) n s x∧RA n0 F0 φ0 H0 w0 nt (qIt reg (defs c) ls st s) a w) n ⟨s0,hn,h0⟩ ?_
      rintro n a w ⟨s,h1,h2⟩
      cases n with
      | zero=>exact h1.elim
      | succ n =>
       obtain⟨y,h3,h4⟩:=h1
       simp only[qJ8] at h3
       refine wp_mono (ih _ _ y h3 h2) fun e a' w' he=>?_
       have out:∀e,(e=.ret∨∃id,e=.exit id)→pE n0 F0 φ0 H0 w0 nt (defs c) (qIt reg (defs c) ls st s) (qHR reg n0 (defs c) ls st k) y e a' w'→pE n0 F0 φ0 H0 w0 nt (defs c) st k x e a' w':=by
        rintro e hee ⟨st',g3,g4,g5,g6⟩
        have h7:((k (e,st')).map (Sum.inr:α→Sg reg ls ⊕ α)).G y:=by
         rcases hee with rfl | ⟨id,rfl⟩<;>exact g3
        obtain⟨x',h8,h9⟩:=DT.qM7 _ _ (fun _ _ h=>Sum.inr.inj h) _ h7
        subst h9
        have h4:x' = x:=h4
        subst h4
        exact⟨st',h8,(wC hs).trans g4,(zL hs).trans g5,g6⟩
       cases e with
       | normal =>
        obtain⟨st',g3,g4,g5,g6⟩:=he
        simp only[qHR] at g3
        obtain⟨st2,hf,g3⟩:=(Out.fF _ _).1 (DT.iE g3)
        obtain⟨g4,g5,g6⟩:=qUD hs hf g4 g5 g6
        split at g3
        ·rename_i b' s' ρ' hr'
         split at g3
         ·rename_i hc'
          obtain⟨hb',g3⟩:=uR g3
          have g3:(Sum.inl s':Sg reg ls ⊕ α)=y:=g3
          subst g3
          exact⟨n,jy n,s',h4,qOU hs hc' hr' hb' hR.lt ((wC hs).trans g4) ((zL hs).trans g5) g6⟩
         ·exact g3.elim
        ·exact g3.elim
       | exit id=>exact out _ (.inr ⟨id,rfl⟩) he
       | ret=>exact out _ (.inl rfl) he
       | goto l=>exact he
       | panic c=>exact he
       | outgrown=>exact he
     ·exact h.elim
    ·exact h.elim
   ·exact h.elim
 | rangeFunc f ps c1 c2 _ _=>intro α k st x h;exact h.elim
 | scope c ih =>
  intro α k st x h a w hR
  refine wp_scope_straight (wp_mono (ih k st x h hR) fun e a' w' he=>?_)
  cases e with
  | goto l=>exact he.elim
  | _=>exact he
 | label l=>intro α k st x h a w hR;exact wp_label ⟨st,h,bY.refl _ _,Grow.refl _,hR⟩
 | goto l=>intro α k st x h;exact h.elim
 | refuse s=>intro α k st x h;exact h.elim
theorem zAv(hm:P.follows .mixedOrders=true)(hHd:bI P hd)(hnt:nt≤1000000){fuel:Nat}{L J:Nat→St reg.T→Option (List Ld)}{n0:Nat}{F0:Nat→Prop}{φ0:Phi}{H0:Nat→Option (O reg.T)}{w0:World}(c:Code){α:Type}(k:aQ×St reg.T→DT α)(st:St reg.T)(x:α)(h:(awd reg P hd nt fuel n0 L J c k st).G x)
  {a:Act} {w:World} (hR:RA n0 F0 φ0 H0 w0 nt st a w):c.wp P (qQN n0 F0 φ0 H0 w0 nt (defs c) st k x) a w :=
 qV (qBI hm hHd hnt (fun _ _ _ _ _ _ h=>qQL (DT.iE h))) c k st x h hR
end
end Go.W
