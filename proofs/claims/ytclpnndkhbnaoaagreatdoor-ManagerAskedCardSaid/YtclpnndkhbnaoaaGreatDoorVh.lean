/- Part of the proof: texts DY. No conditions. -/
import Derived.Test.YtclpnndkhbnaoaaGreatDoorVg
set_option linter.all false
noncomputable section
namespace Go.W
open Go Go.RowKit
namespace DT
theorem bU{α β:Type}{o:Out α}{k:α→DT β}{x:β}:(bI o k).G x↔o.K fun a=>(k a).G x:=by
 induction o with
 | ret a=>exact Iff.rfl
 | need b o ih =>
  show must b ((bI o k).G x)↔must b (o.K _)
  rw[aK,aK,ih]
 | br b u v ihu ihv =>
  show branch b ((bI u k).G x) ((bI v k).G x)↔branch b (u.K _) (v.K _)
  cases b with
  | true=>exact ihu
  | false=>exact ihv
 | bad=>exact Iff.rfl
theorem qQJ:∀{α:Type} (t:DT α) {β:Type} (f:α→β) (x:α),t.G x→(t.map f).G (f x):=by
 intro α t
 induction t with
 | ret a=>intro β f x h;exact congrArg f h
 | need b t ih=>intro β f x h;obtain⟨h0,h⟩:=(aK _ _).1 h;exact(aK _ _).2 ⟨h0,ih f x h⟩
 | br b t u iht ihu =>
  intro β f x h
  cases b with
  | true=>exact iht f x h
  | false=>exact ihu f x h
 | both t u iht ihu=>intro β f x h;exact⟨iht f x h.1,ihu f x h.2⟩
 | bad=>intro β f x h;exact h.elim
 | loop s body ih =>
  intro β f x h
  obtain⟨n,h⟩:=h
  have key:∀(n:Nat) s,rM (fun s y=>(body s).G y) n s x→rM (fun s y=>((body s).map (Sum.map id f)).G y) n s (f x):=by
   intro n
   induction n with
   | zero=>intro s h;exact h.elim
   | succ n ihn =>
    intro s ⟨z,h1,h2⟩
    refine⟨Sum.map id f z,ih s _ z h1,?_⟩
    cases z with
    | inl s'=>exact ihn s' h2
    | inr a=>exact congrArg f h2
  exact⟨n,key n s h⟩
 | join t k iht ihk =>
  intro β f x h
  obtain⟨z,h1,h2⟩:=h
  refine⟨Sum.map id f z,iht _ z h1,?_⟩
  cases z with
  | inl s=>exact ihk s f x h2
  | inr a=>exact congrArg f h2
variable {R S σ:Type}
def dL(t:(α:Type)→(R→DT α)→DT α):Prop:=∀(α:Type) (k:R→DT α) (x:α),(t α k).G x↔∃r,(t R .ret).G r∧(k r).G x
def yX(t:(α:Type)→(R→DT α)→DT (σ ⊕ α)):Prop:=∀(α:Type) (k:R→DT α) (y:σ ⊕ α),(t α k).G y↔(∃s,y=.inl s∧(t R .ret).G (.inl s))∨(∃x r,y=.inr x∧(t R .ret).G (.inr r)∧(k r).G x)
theorem dV(r:R):dL fun α (k:R→DT α)=>k r:=fun α k x=>⟨fun h=>⟨r,rfl,h⟩,fun⟨r',h1,h2⟩=>by cases h1;exact h2⟩
theorem bF:dL fun α (_:R→DT α)=>(.bad:DT α):=fun α k x=>⟨fun h=>h.elim,fun⟨_,h,_⟩=>h.elim⟩
theorem eU{t:(α:Type)→(R→DT α)→DT α}{u:R→(α:Type)→(S→DT α)→DT α}(ht:dL t)(hu:∀r,dL (u r)):dL fun α (k:S→DT α)=>t α fun r=>u r α k:=by
 intro α k x
 rw[ht α]
 constructor
 ·rintro⟨r,h1,h2⟩
  obtain⟨s,h3,h4⟩:=(hu r α k x).1 h2
  exact⟨s,(ht S _ s).2 ⟨r,h1,h3⟩,h4⟩
 ·rintro⟨s,h1,h2⟩
  obtain⟨r,h3,h4⟩:=(ht S _ s).1 h1
  exact⟨r,h3,(hu r α k x).2 ⟨s,h4,h2⟩⟩
theorem dC(o:Out R):dL fun α (k:R→DT α)=>bI o k:=by
 intro α k x
 rw[bU,Out.bP]
 constructor
 ·rintro⟨r,h1,h2⟩;exact⟨r,bU.2 h1,h2⟩
 ·rintro⟨r,h1,h2⟩;exact⟨r,bU.1 h1,h2⟩
theorem xD{t:(α:Type)→(R→DT α)→DT α}(b:Bool)(ht:dL t):dL fun α (k:R→DT α)=>.need b (t α k):=by
 intro α k x
 show must b ((t α k).G x)↔∃r,must b ((t R .ret).G r)∧(k r).G x
 simp only[aK,ht α k x]
 exact⟨fun⟨h1,r,h2,h3⟩=>⟨r,⟨h1,h2⟩,h3⟩,fun⟨r,⟨h1,h2⟩,h3⟩=>⟨h1,r,h2,h3⟩⟩
theorem qBs{t u:(α:Type)→(R→DT α)→DT α}(b:Bool)(ht:dL t)(hu:dL u):dL fun α (k:R→DT α)=>.br b (t α k) (u α k):=by
 intro α k x
 cases b with
 | true=>exact ht α k x
 | false=>exact hu α k x
theorem xE{t:(α:Type)→(R→DT α)→DT (σ ⊕ α)}{u:σ→(α:Type)→(R→DT α)→DT α}(ht:yX t)(hu:∀s,dL (u s)):dL fun α (k:R→DT α)=>.join (t α k) fun s=>u s α k:=by
 intro α k x
 rw[iM]
 constructor
 ·rintro⟨y,h1,h2⟩
  rcases(ht α k y).1 h1 with⟨s,rfl,h3⟩ | ⟨x',r,rfl,h3,h4⟩
  ·obtain⟨r,h4,h5⟩:=(hu s α k x).1 h2
   exact⟨r,⟨.inl s,h3,h4⟩,h5⟩
  ·have h2:x' = x:=h2
   subst h2
   exact⟨r,⟨.inr r,h3,rfl⟩,h4⟩
 ·rintro⟨r,⟨y,h1,h2⟩,h3⟩
  cases y with
  | inl s=>exact⟨.inl s,(ht α k _).2 (.inl ⟨s,rfl,h1⟩),(hu s α k x).2 ⟨r,h2,h3⟩⟩
  | inr r' =>
   have h2:r' = r:=h2
   subst h2
   exact⟨.inr x,(ht α k _).2 (.inr ⟨x,r',rfl,h1,h3⟩),rfl⟩
theorem qKg{t:σ→(α:Type)→(R→DT α)→DT (σ ⊕ α)}(ht:∀s,yX (t s))(s0:σ):dL fun α (k:R→DT α)=>.loop s0 fun s=>t s α k:=by
 intro α k x
 have key:∀(n:Nat) s,rM (fun s y=>(t s α k).G y) n s x↔∃r,rM (fun s y=>(t s R .ret).G y) n s r∧(k r).G x:=by
  intro n
  induction n with
  | zero=>intro s;exact⟨fun h=>h.elim,fun⟨_,h,_⟩=>h.elim⟩
  | succ n ihn =>
   intro s
   constructor
   ·rintro⟨y,h1,h2⟩
    rcases(ht s α k y).1 h1 with⟨s',rfl,h3⟩ | ⟨x',r,rfl,h3,h4⟩
    ·obtain⟨r,h4,h5⟩:=(ihn s').1 h2
     exact⟨r,⟨.inl s',h3,h4⟩,h5⟩
    ·have h2:x' = x:=h2
     subst h2
     exact⟨r,⟨.inr r,h3,rfl⟩,h4⟩
   ·rintro⟨r,⟨y,h1,h2⟩,h3⟩
    cases y with
    | inl s'=>exact⟨.inl s',(ht s α k _).2 (.inl ⟨s',rfl,h1⟩),(ihn s').2 ⟨r,h2,h3⟩⟩
    | inr r' =>
     have h2:r' = r:=h2
     subst h2
     exact⟨.inr x,(ht s α k _).2 (.inr ⟨x,r',rfl,h1,h3⟩),rfl⟩
 rw[lK]
 constructor
 ·rintro⟨n,h⟩
  obtain⟨r,h1,h2⟩:=(key n s0).1 h
  exact⟨r,⟨n,h1⟩,h2⟩
 ·rintro⟨r,⟨n,h1⟩,h2⟩
  exact⟨n,(key n s0).2 ⟨r,h1,h2⟩⟩
theorem kX{t:(α:Type)→(R→DT α)→DT α}{u:R→(α:Type)→(S→DT α)→DT (σ ⊕ α)}(ht:dL t)(hu:∀r,yX (u r)):yX fun α (k:S→DT α)=>t (σ ⊕ α) fun r=>u r α k:=by
 intro α k y
 rw[ht _]
 constructor
 ·rintro⟨r,h1,h2⟩
  rcases(hu r α k y).1 h2 with⟨s,rfl,h3⟩ | ⟨x,q,rfl,h3,h4⟩
  ·exact .inl ⟨s,rfl,(ht _ _ _).2 ⟨r,h1,h3⟩⟩
  ·exact .inr ⟨x,q,rfl,(ht _ _ _).2 ⟨r,h1,h3⟩,h4⟩
 ·rintro(⟨s,rfl,h1⟩ | ⟨x,q,rfl,h1,h2⟩)
  ·obtain⟨r,h3,h4⟩:=(ht _ _ _).1 h1
   exact⟨r,h3,(hu r α k _).2 (.inl ⟨s,rfl,h4⟩)⟩
  ·obtain⟨r,h3,h4⟩:=(ht _ _ _).1 h1
   exact⟨r,h3,(hu r α k _).2 (.inr ⟨x,q,rfl,h4,h2⟩)⟩
theorem lU(s:σ):yX fun α (_:R→DT α)=>(.ret (.inl s):DT (σ ⊕ α)):=by
 intro α k y
 constructor
 ·intro h
  have h:Sum.inl s=y:=h
  exact .inl ⟨s,h.symm,rfl⟩
 ·rintro(⟨s',rfl,h⟩ | ⟨x,r,rfl,h,_⟩)
  ·exact Sum.inl.inj h▸rfl
  ·cases (show(Sum.inl s:σ ⊕ R)=.inr r from h)
theorem xG:yX fun α (_:R→DT α)=>(.bad:DT (σ ⊕ α)):=fun α k y=>⟨fun h=>h.elim,fun h=>by rcases h with⟨_,_,h⟩ | ⟨_,_,_,h,_⟩<;>exact h.elim⟩
theorem qCC{t:(α:Type)→(R→DT α)→DT (σ ⊕ α)}(b:Bool)(ht:yX t):yX fun α (k:R→DT α)=>.need b (t α k):=by
 intro α k y
 show must b ((t α k).G y)↔(∃s,y=.inl s∧must b ((t R .ret).G (.inl s)))∨(∃x r,y=.inr x∧must b ((t R .ret).G (.inr r))∧(k r).G x)
 cases b with
 | true=>exact ht α k y
 | false=>exact⟨fun h=>h.elim,fun h=>by rcases h with⟨_,_,h⟩ | ⟨_,_,_,h,_⟩<;>exact h.elim⟩
theorem qE6(r:R):yX (σ:=σ) fun α (k:R→DT α)=>(k r).map .inr:=by
 intro α k y
 constructor
 ·intro h
  obtain⟨x,h1,h2⟩:=qHa _ _ (fun _ _ h=>Sum.inr.inj h) _ h
  exact .inr ⟨x,r,h2.symm,rfl,h1⟩
 ·rintro(⟨s,rfl,h⟩ | ⟨x,r',rfl,h1,h2⟩)
  ·cases (show(Sum.inr r:σ ⊕ R)=.inl s from h)
  ·have h1:(Sum.inr r:σ ⊕ R)=.inr r':=h1
   cases h1
   exact qQJ _ _ _ h2
end DT
section
open DT
variable {reg:Reg} {P:Program}
theorem qCD{n0:Nat}{D:List Nat}{ls:List Ld}{st:St reg.T}(r:aH×St reg.T):yX fun α (k:aH×St reg.T→DT α)=>qAf reg n0 D ls st k r:=by
 obtain⟨e,st'⟩:=r
 cases e with
 | normal =>
  refine kX (t:=fun α k=>bI (qBk reg ls st') k) (dC _) fun st2=>?_
  cases hr:nI reg ls st2 with
  | none=>simp only[hr];exact xG
  | some q =>
   obtain⟨b,s,ρ⟩:=q
   simp only[hr]
   cases hc:qAb reg n0 D ls st ρ st2 with
   | true =>
    simp only[hc]
    cases b with
    | none=>exact lU s
    | some b=>exact qCC b (lU s)
   | false=>simp only[hc];exact xG
 | exit id=>exact qE6 _
 | ret=>exact qE6 _
theorem qCE{t:(α:Type)→(aH×St reg.T→DT α)→St reg.T→DT α}(ht:∀st,dL fun α k=>t α k st)(r:aH×St reg.T):dL fun α (k:aH×St reg.T→DT α)=>qJY (t α k) k r:=by
 obtain⟨e,st'⟩:=r
 cases e with
 | normal=>exact ht st'
 | exit id=>exact dV _
 | ret=>exact dV _
theorem qFV{id:Nat}(r:aH×St reg.T):dL fun α (k:aH×St reg.T→DT α)=>qDy id k r:=by
 obtain⟨e,st'⟩:=r
 cases e with
 | normal=>exact dV _
 | exit j =>
  simp only[qDy]
  cases Nat.beq j id with
  | true=>exact dV (aH.normal,st')
  | false=>exact dV (aH.exit j,st')
 | ret=>exact dV _
theorem qCF{R:Type}{t:(α:Type)→(R→DT α)→DT α}(b:Ob)(ht:dL t):dL fun α (k:R→DT α)=>wW b (t α k):=by
 cases b with
 | none=>exact ht
 | some b=>exact xD b ht
theorem qE7{ex:ExR reg.T}(hex:∀ops draw st,dL (ex ops draw st)){fuel n0:Nat}{L J:Nat→St reg.T→Option (List Ld)}:∀(c:Code) (st:St reg.T),dL fun α k=>gD reg ex fuel n0 L J c (α:=α) k st:=by
 intro c
 induction c with
 | skip=>intro st;exact dV _
 | region id ops draw=>intro st;exact eU (hex ops draw st) fun st'=>dV (aH.normal,st')
 | seq a b iha ihb =>
  intro st
  cases hJ:J (mQ b) st with
  | none =>
   simp only[gD,hJ]
   exact eU (iha st) fun r=>qCE ihb r
  | some ls =>
   cases hs:qAp (defs a) ls with
   | true =>
    simp only[gD,hJ,hs,qBf]
    exact xE (kX (iha st) fun r=>qCD r) fun s=>ihb _
   | false=>simp only[gD,hJ,hs];exact bF
 | cond o a b iha ihb =>
  intro st
  cases o with
  | tmp t =>
   simp only[gD]
   split
   ·exact qBs _ (iha _) (ihb _)
   ·exact bF
  | const u =>
   simp only[gD]
   split
   ·split
    ·exact iha _
    ·exact ihb _
   ·exact bF
  | _=>exact bF
 | block id c ih=>intro st;exact eU (ih st) fun r=>qFV r
 | exit id=>intro st;exact dV _
 | ret=>intro st;exact dV _
 | loop c ih =>
  intro st
  cases hL:L (mQ c) st with
  | none =>
   simp only[gD,hL]
   have key:∀(n:Nat) st,dL fun α (k:aH×St reg.T→DT α)=>qE1 (fun k st=>gD reg ex fuel n0 L J c k st) n k st:=by
    intro n
    induction n with
    | zero=>intro st;exact bF
    | succ n ihn=>intro st;exact eU (ih st) fun r=>qCE ihn r
   exact key fuel st
  | some ls =>
   cases hs:qAp (defs c) ls with
   | false=>simp only[gD,hL,hs];exact bF
   | true =>
    simp only[gD,hL,hs,qBf]
    refine eU (t:=fun α k=>bI (qBk reg ls st) k) (dC _) fun st2=>?_
    cases hr:nI reg ls st2 with
    | none=>simp only[hr];exact bF
    | some q =>
     obtain⟨b,s0,ρ⟩:=q
     simp only[hr]
     cases hc:qAb reg n0 (defs c) ls st2 ρ st2 with
     | false=>simp only[hc];exact bF
     | true =>
      simp only[hc]
      exact qCF b (qKg (fun s=>kX (ih _) fun r=>qCD r) s0)
 | rangeFunc f ps c1 c2 _ _=>intro st;exact bF
 | scope c ih=>intro st;exact ih st
 | label l=>intro st;exact dV _
 | goto l=>intro st;exact bF
 | refuse s=>intro st;exact bF
end
abbrev HdC(T:Nat→Type):=(α:Type)→FuncId→List (V T)→Hp T→(V T×Hp T→DT α)→DT α
def vL{α:Type}(b:Bool)(t:DT α):DT α:=match b with
 | true=>t
 | false=>.bad
def qBt{T:Nat→Type}(op:Op)(val:Operand→Option (V T)):Option (FuncId×List (V T)):=match op with
 | .call c=>(match bS (c.args.toList.map val) with
  | some vs=>(match c.callee with
   | .value o=>(match val o with | some (.fn f cs fs)=>some (f,fs++vs++cs) | _=>none)
   | _=>none)
  | none=>none)
 | _=>none
section
variable (reg:Reg) (P:Program)
def nK(hc:HdC reg.T)(op:Op)(val:Operand→Option (V reg.T))(h:Hp reg.T)(α:Type)(k:V reg.T×Hp reg.T→DT α):DT α:=match qBt op val with
 | some (f,args)=>(match qF5 P f with
  | true=>.bI (ovG args h) k
  | false=>hc α f args h k)
 | none=>.bI (dO P (fun _ _ _=>.bad) op val h) k
def gP(hc:HdC reg.T)(nt:Nat)(ops:Array Oper):List Oper→St reg.T→(α:Type)→(St reg.T→DT α)→DT α
 | [],st,_,k=>k st
 | o::rest,st,α,k =>
  match gL nt o.dst with
  | false=>.bad
  | true =>
  let run (st:St reg.T):DT α:=nK reg P hc o.op (valOf st.env.get) st.hp α fun r=>vL (Nat.ble st.hp.nx r.2.nx) (hpS o.op r.2 fun h=>qCb ⟨st.env,h⟩ o.dst r.1 fun st=>gP hc nt ops rest st α k)
  let skip (st:St reg.T):DT α:=qCb st o.dst .undef fun st=>gP hc nt ops rest st α k
  match o.guard with
  | none=>run st
  | some (j,want) =>
   match (ops[j]?).bind (·.dst) with
   | none=>.bad
   | some d =>
    match st.env.get d with
    | some (.d (.bool b)) =>
     .br b (match want with | true=>run (st.fix d true) | false=>skip (st.fix d true)) (match want with | true=>skip (st.fix d false) | false=>run (st.fix d false))
    | some .undef=>skip st
    | _=>.bad
def dI(hc:HdC reg.T)(nt:Nat)(ops:Array Oper):List Oper→Nat→St reg.T→List eB→(α:Type)→(St reg.T×List eB→DT α)→DT α
 | [],_,st,tr,_,k=>k (st,tr)
 | o::rest,n,st,tr,α,k =>
  match gL nt o.dst with
  | false=>.bad
  | true =>
  let run (st:St reg.T):DT α :=
   lnS (bQ o.op (valOf st.env.get) st.hp.get) fun l=>trS oS (fQ st.hp.get st.hp.nx l).h fun ph =>
   nK reg P hc o.op (valOf st.env.get) ⟨ph,st.hp.nx,[]⟩ α fun r=>qBe r.2.nx fun nx=>lnS r.2.wr fun wr0 =>
    lnS (r.2.wr++List.range' st.hp.nx (r.2.nx-st.hp.nx)) fun wr =>
    vL (iA l wr0 st.hp.nx nx) (hpS o.op (st.hp.join r.2 wr) fun h=>qCb ⟨st.env,h⟩ o.dst r.1 fun st1=>dI hc nt ops rest (n+1) st1 (⟨n,l,wr,st.hp.nx,nx⟩::tr) α k)
  let skip (st:St reg.T):DT α:=qCb st o.dst .undef fun st1=>dI hc nt ops rest (n+1) st1 (⟨n,[],[],st.hp.nx,st.hp.nx⟩::tr) α k
  match o.guard with
  | none=>run st
  | some (j,want) =>
   match (ops[j]?).bind (·.dst) with
   | none=>.bad
   | some d =>
    match st.env.get d with
    | some (.d (.bool b)) =>
     .br b (match want with | true=>run (st.fix d true) | false=>skip (st.fix d true)) (match want with | true=>skip (st.fix d false) | false=>run (st.fix d false))
    | some .undef=>skip st
    | _=>.bad
def exC(hc:HdC reg.T)(nt:Nat):ExR reg.T:=fun ops draw st α k=>match draw with
 | false=>gP reg P hc nt ops ops.toList st α k
 | true=>dI reg P hc nt ops ops.toList 0 st [] α fun r=>vL (nX ops r.2) (k r.1)
end
section
open DT
variable {reg:Reg} {P:Program}
theorem qBu{α:Type}{b:Bool}{t:DT α}{x:α}:(vL b t).G x↔b=true∧t.G x:=by
 cases b with
 | true=>exact⟨fun h=>⟨rfl,h⟩,fun h=>h.2⟩
 | false=>exact⟨fun h=>h.elim,fun h=>by cases h.1⟩
theorem xH{R:Type}{t:(α:Type)→(R→DT α)→DT α}(b:Bool)(ht:dL t):dL fun α (k:R→DT α)=>vL b (t α k):=by
 cases b with
 | true=>exact ht
 | false=>exact bF
theorem qFW{hd:Hd reg.T}{op:Op}{val:Operand→Option (V reg.T)}{h:Hp reg.T}{f:FuncId}{args:List (V reg.T)}(hc:qBt op val=some (f,args)):dO P hd op val h=match qF5 P f with | true=>ovG args h | false=>hd f args h:=by
 unfold qBt at hc
 split at hc
 ·rename_i c
  split at hc
  ·rename_i vs hvs
   split at hc
   ·rename_i o ho
    split at hc
    ·rename_i f' cs fs hv
     cases hc
     simp only[dO,hvs,ho,hv]
     cases qF5 P f<;>rfl
    ·cases hc
   ·cases hc
  ·cases hc
 ·cases hc
theorem qD2{hd hd':Hd reg.T}{op:Op}{val:Operand→Option (V reg.T)}{h:Hp reg.T}(hc:qBt op val=none):dO P hd op val h=dO P hd' op val h:=by
 cases op with
 | call c =>
  simp only[qBt] at hc
  simp only[dO]
  cases hvs:bS (c.args.toList.map val) with
  | none=>rfl
  | some vs =>
   simp only[hvs] at hc
   cases hcc:c.callee with
   | value o =>
    simp only[hcc] at hc
    cases hv:val o with
    | none=>simp only[hv]
    | some v =>
     cases v with
     | fn f cs fs=>simp only[hv] at hc;cases hc
     | _=>simp only[hv]
   | _=>rfl
 | makeFunc f a b=>cases f<;>rfl
 | _=>rfl
def qKh(hc:HdC reg.T)(hd:Hd reg.T):Prop:=∀(α:Type) f args h (k:V reg.T×Hp reg.T→DT α) (x:α),(hc α f args h k).G x→(hd f args h).K fun r=>(k r).G x
theorem qE8{hc:HdC reg.T}{hd:Hd reg.T}(hr:qKh hc hd){op:Op}{val:Operand→Option (V reg.T)}{h:Hp reg.T}{α:Type}{k:V reg.T×Hp reg.T→DT α}{x:α}(hq:(nK reg P hc op val h α k).G x):(dO P hd op val h).K fun r=>(k r).G x:=by
 unfold nK at hq
 split at hq
 ·rename_i f args hc'
  rw[qFW hc']
  cases ho:qF5 P f with
  | true=>simp only[ho] at hq;exact bU.1 hq
  | false=>simp only[ho] at hq;exact hr _ _ _ _ _ _ hq
 ·rename_i hc'
  rw[qD2 (hd':=fun _ _ _=>.bad) hc']
  exact bU.1 hq
theorem qBv{hc:HdC reg.T}(hn:∀f args h,dL fun α k=>hc α f args h k)(op:Op)(val:Operand→Option (V reg.T))(h:Hp reg.T):dL (nK reg P hc op val h):=by
 unfold nK
 split
 ·split
  ·exact dC _
  ·exact hn _ _ _
 ·exact dC _
theorem qE9{hc:HdC reg.T}{hd:Hd reg.T}(hr:qKh hc hd){nt:Nat}{ops:Array Oper}{α:Type}{k:St reg.T→DT α}{x:α}:∀(l:List Oper) (st:St reg.T),(gP reg P hc nt ops l st α k).G x→(eT P hd nt ops l st).K fun st=>(k st).G x
 | [],st,h=>h
 | o::rest,st,h=>by
  have ih:=qE9 hr (nt:=nt) (ops:=ops) (k:=k) (x:=x) rest
  simp only[gP,nJ,jP] at h
  simp only[eT]
  cases hd0:gL nt o.dst with
  | false=>rw[hd0] at h;exact h.elim
  | true =>
   rw[hd0] at h
   simp only at h ⊢
   have run:∀st:St reg.T,(nK reg P hc o.op (valOf st.env.get) st.hp α fun r=>vL (Nat.ble st.hp.nx r.2.nx) (gP reg P hc nt ops rest (St.put ⟨st.env,r.2⟩ o.dst r.1) α k)).G x →
     ((dO P hd o.op (valOf st.env.get) st.hp).bind fun r=>Out.ask (Nat.ble st.hp.nx r.2.nx) (eT P hd nt ops rest (St.put ⟨st.env,r.2⟩ o.dst r.1))).K fun st=>(k st).G x:=by
    intro st h
    rw[Out.aU]
    refine Out.bN (qE8 hr h) fun r hq=>?_
    obtain⟨h1,h2⟩:=qBu.1 hq
    exact Out.bG.2 ⟨h1,ih _ h2⟩
   cases hg:o.guard with
   | none=>simp only[hg] at h ⊢;exact run st h
   | some jw =>
    obtain⟨j,want⟩:=jw
    simp only[hg] at h ⊢
    cases hj:(ops[j]?).bind (·.dst) with
    | none=>rw[hj] at h;exact h.elim
    | some d =>
     rw[hj] at h
     simp only at h ⊢
     cases he:st.env.get d with
     | none=>rw[he] at h;exact h.elim
     | some v =>
      rw[he] at h
      cases v with
      | d y =>
       cases y with
       | bool b =>
        simp only at h ⊢
        cases b with
        | true =>
         cases want with
         | true=>exact run _ h
         | false=>exact ih _ h
        | false =>
         cases want with
         | true=>exact ih _ h
         | false=>exact run _ h
       | _=>exact h.elim
      | undef=>exact ih _ h
      | _=>exact h.elim
theorem qCG{hc:HdC reg.T}{hd:Hd reg.T}(hr:qKh hc hd){nt:Nat}{ops:Array Oper}{α:Type}{k:St reg.T×List eB→DT α}{x:α}:∀(l:List Oper) (n:Nat) (st:St reg.T) (tr:List eB),(dI reg P hc nt ops l n st tr α k).G x→(eY P hd nt ops l n st tr).K fun r=>(k r).G x
 | [],n,st,tr,h=>h
 | o::rest,n,st,tr,h=>by
  have ih:=qCG hr (nt:=nt) (ops:=ops) (k:=k) (x:=x) rest
  simp only[dI,nJ,jP,vF,gK,iD qC1] at h
  simp only[eY]
  cases hd0:gL nt o.dst with
  | false=>rw[hd0] at h;exact h.elim
  | true =>
   rw[hd0] at h
   simp only at h ⊢
   have run:∀st:St reg.T,(nK reg P hc o.op (valOf st.env.get) (fQ st.hp.get st.hp.nx (bQ o.op (valOf st.env.get) st.hp.get)) α fun r=>vL (iA (bQ o.op (valOf st.env.get) st.hp.get) r.2.wr st.hp.nx r.2.nx)
      (dI reg P hc nt ops rest (n+1) (St.put ⟨st.env,st.hp.join r.2 (r.2.wr++List.range' st.hp.nx (r.2.nx-st.hp.nx))⟩ o.dst r.1) (⟨n,bQ o.op (valOf st.env.get) st.hp.get,r.2.wr++List.range' st.hp.nx (r.2.nx-st.hp.nx),st.hp.nx,r.2.nx⟩::tr) α k)).G x →
     ((dO P hd o.op (valOf st.env.get) (fQ st.hp.get st.hp.nx (bQ o.op (valOf st.env.get) st.hp.get))).bind fun r=>Out.ask (iA (bQ o.op (valOf st.env.get) st.hp.get) r.2.wr st.hp.nx r.2.nx)
      (eY P hd nt ops rest (n+1) (St.put ⟨st.env,st.hp.join r.2 (r.2.wr++List.range' st.hp.nx (r.2.nx-st.hp.nx))⟩ o.dst r.1) (⟨n,bQ o.op (valOf st.env.get) st.hp.get,r.2.wr++List.range' st.hp.nx (r.2.nx-st.hp.nx),st.hp.nx,r.2.nx⟩::tr))).K fun r=>(k r).G x:=by
    intro st h
    rw[Out.aU]
    refine Out.bN (qE8 hr h) fun r hq=>?_
    obtain⟨h1,h2⟩:=qBu.1 hq
    exact Out.bG.2 ⟨h1,ih _ _ _ h2⟩
   cases hg:o.guard with
   | none=>simp only[hg] at h ⊢;exact run st h
   | some jw =>
    obtain⟨j,want⟩:=jw
    simp only[hg] at h ⊢
    cases hj:(ops[j]?).bind (·.dst) with
    | none=>rw[hj] at h;exact h.elim
    | some d =>
     rw[hj] at h
     simp only at h ⊢
     cases he:st.env.get d with
     | none=>rw[he] at h;exact h.elim
     | some v =>
      rw[he] at h
      cases v with
      | d y =>
       cases y with
       | bool b =>
        simp only at h ⊢
        cases b with
        | true =>
         cases want with
         | true=>exact run _ h
         | false=>exact ih _ _ _ h
        | false =>
         cases want with
         | true=>exact ih _ _ _ h
         | false=>exact run _ h
       | _=>exact h.elim
      | undef=>exact ih _ _ _ h
      | _=>exact h.elim
theorem qKi{hc:HdC reg.T}{hd:Hd reg.T}(hr:qKh hc hd){nt:Nat}{ops:Array Oper}{draw:Bool}{st:St reg.T}{α:Type}{k:St reg.T→DT α}{x:α}(h:(exC reg P hc nt ops draw st α k).G x):(lC P hd nt ops draw st).K fun st=>(k st).G x:=by
 cases draw with
 | false=>exact qE9 hr _ _ h
 | true =>
  simp only[lC]
  rw[Out.aU]
  refine Out.bN (qCG hr _ _ _ _ h) fun r hq=>?_
  obtain⟨h1,h2⟩:=qBu.1 hq
  exact Out.bG.2 ⟨qAe h1,h2⟩
theorem qBw{hc:HdC reg.T}(hn:∀f args h,dL fun α k=>hc α f args h k){nt:Nat}{ops:Array Oper}:∀(l:List Oper) (st:St reg.T),dL (gP reg P hc nt ops l st)
 | [],st=>dV st
 | o::rest,st=>by
  have ih:=qBw hn (nt:=nt) (ops:=ops) rest
  have run:∀st:St reg.T,dL fun α (k:St reg.T→DT α)=>nK reg P hc o.op (valOf st.env.get) st.hp α fun r=>vL (Nat.ble st.hp.nx r.2.nx) (gP reg P hc nt ops rest (St.put ⟨st.env,r.2⟩ o.dst r.1) α k) :=
   fun st=>eU (qBv hn _ _ _) fun r=>xH _ (ih _)
  cases hd0:gL nt o.dst with
  | false=>intro α k x;simp only[gP,hd0];exact bF α k x
  | true =>
   cases hg:o.guard with
   | none=>intro α k x;simp only[gP,nJ,jP,hd0,hg];exact run st α k x
   | some jw =>
    obtain⟨j,want⟩:=jw
    cases hj:(ops[j]?).bind (·.dst) with
    | none=>intro α k x;simp only[gP,hd0,hg,hj];exact bF α k x
    | some d =>
     cases he:st.env.get d with
     | none=>intro α k x;simp only[gP,hd0,hg,hj,he];exact bF α k x
     | some v =>
      have other:(∀b,v≠.d (.bool b))→v≠.undef→dL (gP reg P hc nt ops (o::rest) st):=by
       intro h1 h2 α k x
       simp only[gP,hd0,hg,hj,he]
       split
       ·rename_i b hb;cases hb;exact(h1 _ rfl).elim
       ·rename_i hb;cases hb;exact(h2 rfl).elim
       ·exact bF α k x
      cases v with
      | d y =>
       cases y with
       | bool b =>
        intro α k x
        simp only[gP,nJ,jP,hd0,hg,hj,he]
        cases want with
        | true=>exact qBs b (run _) (ih _) α k x
        | false=>exact qBs b (ih _) (run _) α k x
       | _=>exact other (fun b h=>by cases h) (fun h=>by cases h)
      | undef=>intro α k x;simp only[gP,nJ,jP,hd0,hg,hj,he];exact ih _ α k x
      | _=>exact other (fun b h=>by cases h) (fun h=>by cases h)
theorem qAh{hc:HdC reg.T}(hn:∀f args h,dL fun α k=>hc α f args h k){nt:Nat}{ops:Array Oper}:∀(l:List Oper) (n:Nat) (st:St reg.T) (tr:List eB),dL (dI reg P hc nt ops l n st tr)
 | [],n,st,tr=>dV (st,tr)
 | o::rest,n,st,tr=>by
  have ih:=qAh hn (nt:=nt) (ops:=ops) rest
  have run:∀st:St reg.T,dL fun α (k:St reg.T×List eB→DT α)=>nK reg P hc o.op (valOf st.env.get) (fQ st.hp.get st.hp.nx (bQ o.op (valOf st.env.get) st.hp.get)) α fun r=>vL (iA (bQ o.op (valOf st.env.get) st.hp.get) r.2.wr st.hp.nx r.2.nx)
      (dI reg P hc nt ops rest (n+1) (St.put ⟨st.env,st.hp.join r.2 (r.2.wr++List.range' st.hp.nx (r.2.nx-st.hp.nx))⟩ o.dst r.1) (⟨n,bQ o.op (valOf st.env.get) st.hp.get,r.2.wr++List.range' st.hp.nx (r.2.nx-st.hp.nx),st.hp.nx,r.2.nx⟩::tr) α k) :=
   fun st=>eU (qBv hn _ _ _) fun r=>xH _ (ih _ _ _)
  cases hd0:gL nt o.dst with
  | false=>intro α k x;simp only[dI,hd0];exact bF α k x
  | true =>
   cases hg:o.guard with
   | none=>intro α k x;simp only[dI,nJ,jP,vF,gK,iD qC1,hd0,hg];exact run st α k x
   | some jw =>
    obtain⟨j,want⟩:=jw
    cases hj:(ops[j]?).bind (·.dst) with
    | none=>intro α k x;simp only[dI,hd0,hg,hj];exact bF α k x
    | some d =>
     cases he:st.env.get d with
     | none=>intro α k x;simp only[dI,hd0,hg,hj,he];exact bF α k x
     | some v =>
      have other:(∀b,v≠.d (.bool b))→v≠.undef→dL (dI reg P hc nt ops (o::rest) n st tr):=by
       intro h1 h2 α k x
       simp only[dI,hd0,hg,hj,he]
       split
       ·rename_i b hb;cases hb;exact(h1 _ rfl).elim
       ·rename_i hb;cases hb;exact(h2 rfl).elim
       ·exact bF α k x
      cases v with
      | d y =>
       cases y with
       | bool b =>
        intro α k x
        simp only[dI,nJ,jP,vF,gK,iD qC1,hd0,hg,hj,he]
        cases want with
        | true=>exact qBs b (run _) (ih _ _ _) α k x
        | false=>exact qBs b (ih _ _ _) (run _) α k x
       | _=>exact other (fun b h=>by cases h) (fun h=>by cases h)
      | undef=>intro α k x;simp only[dI,nJ,jP,vF,gK,iD qC1,hd0,hg,hj,he];exact ih _ _ _ α k x
      | _=>exact other (fun b h=>by cases h) (fun h=>by cases h)
theorem qHg{hc:HdC reg.T}(hn:∀f args h,dL fun α k=>hc α f args h k){nt:Nat}(ops:Array Oper)(draw:Bool)(st:St reg.T):dL (exC reg P hc nt ops draw st):=by
 cases draw with
 | false=>exact qBw hn _ _
 | true =>
  show dL fun α (k:St reg.T→DT α)=>dI reg P hc nt ops ops.toList 0 st [] α fun r=>vL (nX ops r.2) (k r.1)
  exact eU (t:=dI reg P hc nt ops ops.toList 0 st []) (u:=fun r α k=>vL (nX ops r.2) (k r.1)) (qAh hn _ _ _ _) fun r=>xH _ (dV r.1)
end
def Tr.qEA{α:Type}(n:Nat):Tr α→Nat→Nat→Bool
 | .e,_,_=>true
 | .n l v r,b,w=>(match (match v with | some _=>Nat.ble (Nat.add w b) n | none=>true) with
  | true=>(match Tr.qEA n l b (Nat.mul 2 w) with
   | true=>Tr.qEA n r (Nat.add b w) (Nat.mul 2 w)
   | false=>false)
  | false=>false)
theorem Tr.yY{α:Type}{n:Nat}:∀{t:Tr α} {b w:Nat},Tr.qEA n t b w=true→∀{p:Nat} {x:α},1≤p→t.uT p=some x→b+w*p≤n
 | .e,b,w,_,p,x,_,h=>by simp[Tr.uT] at h
 | .n l v r,b,w,ht,p,x,hp,h=>by
  simp only[Tr.qEA] at ht
  rw[Tr.pI] at h
  split at ht
  ·rename_i hv
   split at ht
   ·rename_i hl
    split at h
    ·rename_i e
     subst e h
     have: w+b≤n:=bz hv
     omega
    ·rename_i e
     split at h
     ·rename_i e2
      have:= Tr.yY hl (by omega) h
      have e3:p=2*(p / 2):=by omega
      have e4:w*p=2*w*(p / 2):=by rw[o9 2 w,Nat.mul_assoc,←e3]
      have this:b+2*w*(p / 2)≤n:=this
      omega
     ·rename_i e2
      have:= Tr.yY ht (by omega) h
      have e3:p=2*(p / 2)+1:=by omega
      have e4:w*p=2*w*(p / 2)+w:=by
       have: w*p=w*(2*(p / 2)+1):=by rw[←e3]
       rw[this,Nat.mul_add,o9 2 w,Nat.mul_assoc,qi]
      have this:b+w+2*w*(p / 2)≤n:=this
      omega
   ·cases ht
  ·cases ht
def qFX{T:Nat→Type}(args:List (V T))(h:Hp T):Bool:=match V.elder.goL h.nx args with
 | true=>(match h.h.allT (O.elder h.nx) with
  | true=>(match Tr.ok h.nx with | true=>Tr.qEA h.nx h.h 0 1 | false=>false)
  | false=>false)
 | false=>false
def qHh{T:Nat→Type}(h h':Hp T):Bool:=(h'.wr.take (h'.wr.length-h.wr.length)).all fun i=>(match Nat.ble h.nx i with
 | true=>true
 | false=>(match h.get i with | some _=>true | none=>false))
section
variable (reg:Reg) (P:Program)
abbrev CJ(T:Nat→Type):=List (V T)→Hp T→(α:Type)→(V T×Hp T→DT α)→DT α
def vM(hd:Hd reg.T)(cj:FuncId→Option (CJ reg.T))(f:FuncId)(args:List (V reg.T))(h:Hp reg.T)(α:Type)(k:V reg.T×Hp reg.T→DT α):DT α:=match cj f with
 | some c=>c args h α k
 | none=>.bI (hd f args h) k
def gcH{T:Nat→Type}(n0:Nat)(v:V T)(h:Hp T):Hp T:=⟨dJ ((List.range' n0 (h.nx-n0)).filter fun i=>Tr.ok i&&!fI (reach h.get 1000 0 ((List.range n0).foldl (fun l j=>wP (h.get j) l) (V.names v []))) i) h.h,h.nx,h.wr⟩
theorem lV{T:Nat→Type}{n0:Nat}{v:V T}{h:Hp T}{i:Nat}{o:O T}(hg:(gcH n0 v h).get i=some o):h.get i=some o:=by
 have hg:(dJ _ h.h).get i=some o:=hg
 rw[dE (fun j hj=>by have:= (p9.1 hj).2;simp only[bu] at this;exact this.1)] at hg
 split at hg
 ·cases hg
 ·exact hg
theorem qOU{T:Nat→Type}{n0:Nat}{v:V T}{h:Hp T}{i:Nat}(hi:i<n0):(gcH n0 v h).get i=h.get i:=by
 show(dJ _ h.h).get i=_
 rw[dE (fun j hj=>by have:= (p9.1 hj).2;simp only[bu] at this;exact this.1),if_neg]
 ·rfl
 ·intro hm
  have:= (p9.1 hm).1
  rw[mh] at this
  omega
def qFY{T:Nat→Type}(h h':Hp T):Bool:=(h'.wr.take (h'.wr.length-h.wr.length)).all fun i=>Nat.ble h.nx i
def qEB(h:Hp reg.T)(kr:List Kd){α:Type}(q:V reg.T×Hp reg.T):DT (Cs reg kr ⊕ α):=.bI (fO reg [q.1] q.2) fun q2=>vL (qFY h q2.2&&kr.all bK) (match qBp reg kr (q2.1.headD .any) q2.2.get with
 | some (b,x)=>wW b (.ret (.inl x))
 | none=>.bad)
def hcN(hd:Hd reg.T)(cj:FuncId→Option (CJ reg.T))(inl:FuncId→List (V reg.T)→Option (Option (List Kd)))(fuel:Nat)(L J:FuncId→Nat→St reg.T→Option (List Ld)):Nat→HdC reg.T
 | 0=>fun α f args h k=>vM reg hd cj f args h α k
 | n+1=>fun α f args h k=>match inl f args with
  | none=>vM reg hd cj f args h α k
  | some jk=>(match P.funcs[f]? with
   | none=>.bad
   | some fn=>(match fn.body with
    | none=>.bad
    | some c=>(match Nat.ble args.length fn.ntmps&&Nat.ble fn.ntmps 1000000&&qFX args h with
     | true=>trS vS (dP args 0 .e) fun env=>(match jk with
      | none=>gD reg (exC reg P (hcN hd cj inl fuel L J n) fn.ntmps) fuel h.nx (L f) (J f) c (fun r=>.bI (iW P fn r) fun q=>vL (qHh h q.2) (k (q.1,gcH h.nx q.1 q.2))) ⟨env,h⟩
      | some kr=>.join (gD reg (exC reg P (hcN hd cj inl fuel L J n) fn.ntmps) fuel h.nx (L f) (J f) c (fun r=>.bI (iW P fn r) fun q=>qEB reg h kr q) ⟨env,h⟩) fun x=>k (encR reg kr x,h))
     | false=>.bad)))
open Classical in
def hdI(hd:Hd reg.T)(cj:FuncId→Option (CJ reg.T))(inl:FuncId→List (V reg.T)→Option (Option (List Kd)))(fuel:Nat)(L J:FuncId→Nat→St reg.T→Option (List Ld))(n:Nat):Hd reg.T:=fun f args h=>Out.ofO (hcN reg P hd cj inl fuel L J n _ f args h .ret).val
end
section
open DT
variable {reg:Reg} {P:Program} {hd:Hd reg.T} {cj:FuncId→Option (CJ reg.T)} {inl:FuncId→List (V reg.T)→Option (Option (List Kd))} {fuel:Nat} {L J:FuncId→Nat→St reg.T→Option (List Ld)}
def qFZ(hd:Hd reg.T)(cj:FuncId→Option (CJ reg.T)):Prop:=∀f c,cj f=some c→(∀args h,dL (c args h))∧∀args h (α:Type) (k:V reg.T×Hp reg.T→DT α) (x:α),(c args h α k).G x→(hd f args h).K fun r=>(k r).G x
theorem qBx(hcj:qFZ hd cj)(f:FuncId)(args:List (V reg.T))(h:Hp reg.T):dL (vM reg hd cj f args h):=by
 unfold vM
 split
 ·rename_i c hc;exact(hcj f c hc).1 args h
 ·exact dC _
theorem qKj(hcj:qFZ hd cj){f:FuncId}{args:List (V reg.T)}{h:Hp reg.T}{α:Type}{k:V reg.T×Hp reg.T→DT α}{x:α}(hq:(vM reg hd cj f args h α k).G x):(hd f args h).K fun r=>(k r).G x:=by
 unfold vM at hq
 split at hq
 ·rename_i c hc;exact(hcj f c hc).2 args h α k x hq
 ·exact bU.1 hq
theorem qII{σ R:Type}{t:(α:Type)→(R→DT α)→DT (σ ⊕ α)}(b:Bool)(ht:yX t):yX fun α (k:R→DT α)=>vL b (t α k):=by
 cases b with
 | true=>exact ht
 | false=>exact xG
theorem qIJ{R:Type}{h:Hp reg.T}{kr:List Kd}(q:V reg.T×Hp reg.T):yX fun α (_:R→DT α)=>(qEB reg h kr q:DT (Cs reg kr ⊕ α)):=by
 refine kX (t:=fun α k=>bI (fO reg [q.1] q.2) k) (dC _) fun q2=>qII _ ?_
 cases hr:qBp reg kr (q2.1.headD .any) q2.2.get with
 | none=>simp only[hr];exact xG
 | some p =>
  obtain⟨b,x⟩:=p
  simp only[hr]
  cases b with
  | none=>exact lU x
  | some b=>exact qCC b (lU x)
theorem qD3(hcj:qFZ hd cj):∀(n:Nat) f args h,dL fun α k=>hcN reg P hd cj inl fuel L J n α f args h k
 | 0,f,args,h=>qBx hcj f args h
 | n+1,f,args,h=>by
  cases hi:inl f args with
  | none=>simp only[hcN,hi];exact qBx hcj f args h
  | some jk =>
   cases hfn:P.funcs[f]? with
   | none=>simp only[hcN,hi,hfn];exact bF
   | some fn =>
    cases hb:fn.body with
    | none=>simp only[hcN,hi,hfn,hb];exact bF
    | some c =>
     cases hc:Nat.ble args.length fn.ntmps&&Nat.ble fn.ntmps 1000000&&qFX args h with
     | false=>simp only[hcN,hi,hfn,hb,hc];exact bF
     | true =>
      cases jk with
      | none =>
       simp only[hcN,hi,hfn,hb,hc,iD wU]
       exact eU (qE7 (qHg (qD3 hcj n)) c _) fun r=>eU (t:=fun α k=>bI (iW P fn r) k) (dC _) fun q=>xH _ (dV (q.1,gcH h.nx q.1 q.2))
      | some kr =>
       simp only[hcN,hi,hfn,hb,hc,iD wU]
       exact xE (kX (qE7 (qHg (qD3 hcj n)) c _) fun r=>kX (t:=fun α k=>bI (iW P fn r) k) (dC _) fun q=>qIJ q) fun x=>dV _
theorem qD4(hcj:qFZ hd cj)(n:Nat):qKh (hcN reg P hd cj inl fuel L J n) (hdI reg P hd cj inl fuel L J n):=by
 intro α f args h k x hq
 obtain⟨r,h1,h2⟩:=(qD3 hcj n f args h α k x).1 hq
 unfold hdI
 rw[DT.qKe h1]
 exact h2
theorem qGa{n:Nat}{F:Nat→Prop}{w:World}{φ φ':Phi}{args:List (V reg.T)}{cargs:Array Value}(h:eF F w φ args cargs)(hb:V.elder.goL n args=true)(hφ:∀i p,i<n→φ i=some p→φ' i=some p):eF F w φ' args cargs :=
 ⟨h.1,fun j hj=>sQ (h.2 j hj) (jF hb j) (fun _ h=>h) hφ⟩
theorem qIK{h h':Hp reg.T}{l:List Nat}{i:Nat}(hr:qHh h h' = true)(hw:h'.wr=l++h.wr)(hi:i∈l)(hlt:i<h.nx):∃o,h.get i=some o:=by
 unfold qHh at hr
 rw[hw,ji,Nat.add_sub_cancel,List.take_left] at hr
 have:= ek.1 hr i hi
 have hb':Nat.ble h.nx i=false:=by
  cases hx:Nat.ble h.nx i with
  | false=>rfl
  | true=>have:= bz hx;omega
 rw[hb'] at this
 simp only at this
 split at this
 ·rename_i o' ho';exact⟨o',ho'⟩
 ·cases this
theorem qMA{N F:Nat→Prop}{φ φ1:Phi}{h:Hp reg.T}{w w':World}(hH:HR N F φ h w)(hkeys:∀i o,h.get i=some o→i<h.nx){args:List (V reg.T)}(_:V.elder.goL h.nx args=true)(heh:h.h.allT (O.elder h.nx)=true)
  (hφ1e:∀i,i<h.nx→φ1 i=φ i) (_:∀i p,φ1 i=some p→i<h.nx∧φ i=some p) (hown:∀b,bR reg φ1 h.get b→bR reg φ h.get b) {N2 F2:Nat→Prop} {φ2:Phi} {h2:Hp reg.T} (hG:Goes reg F φ1 (fun i=>i<h.nx) h.get w F2 φ2 N2 h2.get w')
  (hH2:HR N2 F2 φ2 h2 w') (hgr:Grow h h2) (hcl:qFY h h2=true) {v:V reg.T} {cv:Value} (hv:aA reg F2 w' φ2 v cv) {kr:List Kd} {b:Ob} {x:Cs reg kr} (hr:qBp reg kr v h2.get=some (b,x)) (hpl:kr.all bK=true) {Q:V reg.T×Hp reg.T→Prop} (hQ:Q (encR reg kr x,h)) :
  Res N F φ h w Q cv w':=by
 have hsame:∀i o,h.get i=some o→h2.get i=some o:=by
  intro i o ho
  obtain⟨g1,l,g2,g3⟩:=hgr
  have hi:=hkeys i o ho
  rw[g3 i (fun hm=>?_) (by omega)]
  ·exact ho
  ·unfold qFY at hcl
   rw[g2,ji,Nat.add_sub_cancel,List.take_left] at hcl
   have:= bz (ek.1 hcl i hm)
   omega
 have hφ:∀i,i<h.nx→φ2 i=φ i:=fun i hi=>(hG.phi i hi).trans (hφ1e i hi)
 have hv2:=(jV hv ((qCB hr hpl).1 [])).1
 have hv3:aA reg F2 w' φ (encR reg kr x) cv:=hv2.mono reg (fun b hb=>⟨hb,rfl⟩) (fun i p hp=>by cases hp)
 refine⟨encR reg kr x,h,N,F2,φ,hQ,hv3,?_,?_⟩
 ·exact⟨fun i o ho=>qAU (hH2.obj i o (hsame i o ho)) (wY heh ho) (hkeys i o ho) (fun _ h=>h) (fun i p hi hp=>(hφ i hi).symm.trans hp) (fun i hi hp=>(hφ i hi).symm.trans hp),
   fun i o b s k ho hp=>hH2.own i o b s k (hsame i o ho) ((hφ i (hkeys i o ho)).trans hp),
   fun i j oi oj b s k s' k' hoi hoj hpi hpj=>hH2.inj i j oi oj b s k s' k' (hsame i oi hoi) (hsame j oj hoj) ((hφ i (hkeys i oi hoi)).trans hpi) ((hφ j (hkeys j oj hoj)).trans hpj),
   hH.dom,hH.lt,hH.ok,hH2.frz,hH2.lay⟩
 ·exact⟨⟨hG.os,hG.tape,hG.output,hG.size,fun b hb hn=>hG.block b hb (fun h=>hn (hown b h)),hG.fsub,fun b hb=>by
   rcases hG.fnew b hb with h1 | h1 | h1
   ·exact .inl h1
   ·exact .inr (.inl h1)
   ·exact .inr (.inr (hown b h1)),fun i _=>rfl,fun i hi=>hi,fun b hb=>.inl hb,fun i p hp=>.inl (hH.dom i p hp)⟩,Grow.refl h,fun i hi=>.inl hi⟩
theorem qIL(hm:P.follows .mixedOrders=true)(hno:∀(f:FuncId) fn,P.funcs[f]? = some fn→fn.body.isNone=false→(fn.name == "runtime.NumGoroutine")=false)(hHd:bT P hd)(hcj:qFZ hd cj):∀n,bT P (hdI reg P hd cj inl fuel L J n):=by
 intro n
 have base:∀(m:Nat) f args h Q,(∀(k:V reg.T×Hp reg.T→DT (V reg.T×Hp reg.T)),hcN reg P hd cj inl fuel L J m _ f args h k=vM reg hd cj f args h _ k)→(hdI reg P hd cj inl fuel L J m f args h).K Q→(hd f args h).K Q:=by
  intro m f args h Q he hq
  obtain⟨r,h1,h2⟩:=Out.qNW.1 hq
  have h3:=DT.qKf (d:=r) (t:=hcN reg P hd cj inl fuel L J m _ f args h .ret) (by rw[h1];rfl)
  rw[h1,he] at h3
  exact Out.bN (qKj hcj h3) fun q hq=>by
   have hq:q=r:=hq
   rw[hq];exact h2
 induction n with
 | zero=>intro f args h Q hq;exact hHd f args h Q (base 0 f args h Q (fun _=>rfl) hq)
 | succ n ih =>
  intro f args h Q hq
  cases hi:inl f args with
  | none=>exact hHd f args h Q (base (n+1) f args h Q (fun k=>by simp only[hcN,hi]) hq)
  | some jk =>
   obtain⟨r,h1,hQ⟩:=Out.qNW.1 hq
   have h3:=DT.qKf (d:=r) (t:=hcN reg P hd cj inl fuel L J (n+1) _ f args h .ret) (by rw[h1];rfl)
   rw[h1] at h3
   have h3:(hcN reg P hd cj inl fuel L J (n+1) _ f args h .ret).G r:=h3
   simp only[hcN,hi] at h3
   split at h3
   ·exact h3.elim
   rename_i fn hfn
   split at h3
   ·exact h3.elim
   rename_i c hb
   split at h3
   ·rename_i hc
    rw[iD wU] at h3
    simp only[bu] at hc
    obtain⟨⟨hle,hnt⟩,hbo⟩:=hc
    have hle:args.length≤fn.ntmps:=by simpa using hle
    have hnt:fn.ntmps≤1000000:=bz hnt
    have hbn:fn.body.isNone=false:=by rw[hb];rfl
    refine⟨⟨fn,hfn,hno f fn hfn hbn,hbn⟩,fun N F φ w cargs hfr hH hl=>?_⟩
    have hfr:=hfr r hQ
    unfold qFX at hbo
    split at hbo
    ·rename_i hea
     split at hbo
     ·rename_i heh
      split at hbo
      ·rename_i hoknx
       have hkeys:∀i o,h.get i=some o→i<h.nx:=by
        intro i o hio
        have:= Tr.yY hbo (p:=i+1) (by omega) hio
        omega
       let φ1:Phi:=fun i=>if i<h.nx then φ i else none
       have hφ1:∀i p,i<h.nx→φ i=some p→φ1 i=some p:=fun i p hi hp=>by show(if i<h.nx then φ i else none)=_;rw[if_pos hi];exact hp
       have hφ1n:∀i,i<h.nx→φ i=none→φ1 i=none:=fun i hi hp=>by show(if i<h.nx then φ i else none)=_;rw[if_pos hi];exact hp
       have hφ1e:∀i,i<h.nx→φ1 i=φ i:=fun i hi=>if_pos hi
       have hφ2:∀i p,φ1 i=some p→i<h.nx∧φ i=some p:=by
        intro i p hp
        have hp:(if i<h.nx then φ i else none)=some p:=hp
        split at hp
        ·rename_i h';exact⟨h',hp⟩
        ·cases hp
       have hnxv:h.nx<9223372036854775807:=by simpa [Tr.ok] using hoknx
       have hlt:∀i,i<h.nx→Tr.ok i=true:=by
        intro i hi
        simp[Tr.ok];omega
       have hH1:HR (fun i=>i<h.nx) F φ1 h w :=
        ⟨fun i o ho=>qAU (hH.obj i o ho) (wY heh ho) (hkeys i o ho) (fun _ h=>h) hφ1 hφ1n,
         fun i o b s k ho hp=>hH.own i o b s k ho (hφ2 _ _ hp).2,
         fun i j oi oj b s k s' k' hoi hoj hpi hpj=>hH.inj i j oi oj b s k s' k' hoi hoj (hφ2 _ _ hpi).2 (hφ2 _ _ hpj).2,
         fun i p hp=>(hφ2 _ _ hp).1,fun i o ho=>hkeys i o ho,hlt,hH.frz,hH.lay⟩
       have hown:∀b,bR reg φ1 h.get b→bR reg φ h.get b:=fun b ⟨i,o,s,k,h1,h2⟩=>⟨i,o,s,k,h1,(hφ2 _ _ h2).2⟩
       have hRA:RA h.nx F φ1 h.get w fn.ntmps ⟨dP args 0 .e,h⟩ { tmps:=cargs++Array.replicate (fn.ntmps-cargs.size) undef,defers:=[] } w :=
        ⟨fun i=>i<h.nx,F,φ1,fun i hi=>hi,nT hH1 (qGa hl hea hφ1) hle hnt,Goes.refl reg hH1⟩
       cases jk with
       | some kr =>
        obtain⟨y,h4,h5⟩:=iM.1 h3
        refine calls_of_wp hfn hb (wp_mono (jI (rV hm ih hnt (fun _ _ _ _ _ _ h=>qKi (qD4 hcj n) h)) c _ _ y h4 hRA) fun e a' w' he=>?_)
        have hfin:∀(q:aH×St reg.T) (Q:V reg.T×Hp reg.T→Prop),(iW P fn q).K Q→∃v,qBU P fn q.2=some v∧Q (v,q.2.hp)∧∀id,q.1≠.exit id:=by
         intro q Q hr
         obtain⟨e,st⟩:=q
         cases e with
         | normal=>obtain⟨v,h1,h2⟩:=eD hr;exact⟨v,h1,h2,fun id=>by simp⟩
         | ret=>obtain⟨v,h1,h2⟩:=eD hr;exact⟨v,h1,h2,fun id=>by simp⟩
         | exit id=>exact hr.elim
        have fin:∀(e':aH),iL h.nx F φ1 h.get w fn.ntmps (defs c) ⟨dP args 0 .e,h⟩ (fun q=>bI (iW P fn q) fun q=>qEB reg h kr q) y e' a' w' →
          a'.defers=[]∧∃cv,(results fn a'.tmps).run P w' = .ok cv w'∧bY N F φ h w Q (.returned cv) w':=by
         rintro e' ⟨st,hk,_,hgr,N',F',φ',hN',hR,hG⟩
         obtain⟨v,h6,h7,_⟩:=hfin _ _ (dH hk)
         obtain⟨cv,h8,h9⟩:=jE hR h6
         refine⟨hR.dfs,cv,h8,cv,rfl,?_⟩
         have h7:(qEB reg h kr (v,st.hp)).G y:=h7
         unfold qEB at h7
         obtain⟨q2,hf,h10⟩:=(Out.bP _ _).1 (dH h7)
         obtain⟨hask,h11⟩:=qBu.1 h10
         simp only[bu] at hask
         obtain⟨hcl,hpl⟩:=hask
         split at h11
         ·rename_i b x hr
          obtain⟨hb',h12⟩:=kN h11
          have h12:Sum.inl x=y:=h12
          subst h12
          have h5:(encR reg kr x,h)=r:=h5
          have hz:eF F' w' φ' [v] #[cv]:=⟨rfl,fun j hj=>by
           have: j=0:=by simpa using hj
           subst this;exact h9⟩
          obtain⟨N2,F2,φ2,hl2,hH2,hG2⟩:=(vK hf).2 N' F' φ' w' #[cv] hR.heap hz
          have hv2:aA reg F2 w' φ2 (q2.1.headD .any) cv:=by
           have hlen:q2.1.length=1:=hl2.1
           match q2.1,hlen,hl2.2 with
           | [u],_,hh=>exact hh 0 (by simp)
          exact qMA hH hkeys hea heh hφ1e hφ2 hown (hG.trans reg hG2.goes) hH2 (hgr.trans hG2.grow) hcl hv2 hr hpl (h5▸hQ)
         ·exact h11.elim
        cases e with
        | normal=>exact fin _ he
        | ret=>exact fin _ he
        | exit id =>
         obtain⟨st,hk,_⟩:=he
         obtain⟨_,_,_,h6⟩:=hfin _ _ (dH hk)
         exact(h6 id rfl).elim
        | goto l=>exact he.elim
        | panic ch=>exact he.elim
        | outgrown=>exact he.elim
       | none =>
       refine calls_of_wp hfn hb (wp_mono (jI (rV hm ih hnt (fun _ _ _ _ _ _ h=>qKi (qD4 hcj n) h)) c _ _ r h3 hRA) fun e a' w' he=>?_)
       have hfin:∀(q:aH×St reg.T) (Q:V reg.T×Hp reg.T→Prop),(iW P fn q).K Q→∃v,qBU P fn q.2=some v∧Q (v,q.2.hp)∧∀id,q.1≠.exit id:=by
        intro q Q hr
        obtain⟨e,st⟩:=q
        cases e with
        | normal=>obtain⟨v,h1,h2⟩:=eD hr;exact⟨v,h1,h2,fun id=>by simp⟩
        | ret=>obtain⟨v,h1,h2⟩:=eD hr;exact⟨v,h1,h2,fun id=>by simp⟩
        | exit id=>exact hr.elim
       have fin:∀(e':aH),iL h.nx F φ1 h.get w fn.ntmps (defs c) ⟨dP args 0 .e,h⟩ (fun q=>bI (iW P fn q) fun q=>vL (qHh h q.2) (.ret (q.1,gcH h.nx q.1 q.2))) r e' a' w' →
         a'.defers=[]∧∃cv,(results fn a'.tmps).run P w' = .ok cv w'∧bY N F φ h w Q (.returned cv) w':=by
        rintro e' ⟨st,hk,_,hgr,N',F',φ',hN',hR,hG⟩
        obtain⟨v,h4,h5,_⟩:=hfin _ _ (dH hk)
        obtain⟨hro,h5⟩:=qBu.1 h5
        have h5:(v,gcH h.nx v st.hp)=r:=h5
        obtain⟨cv,h6,h7⟩:=jE hR h4
        subst h5
        have hgr:Grow h st.hp:=hgr
        have hfr:bX N h.nx st.hp.nx:=hfr
        have hnx:h.nx≤st.hp.nx:=hgr.1
        have hH':=hR.heap
        have hold:∀i o,st.hp.get i=some o→i<h.nx→N i:=by
         intro i o hio hi
         obtain⟨_,l,hw,hkeep⟩:=hgr
         have hin:∃o',h.get i=some o':=by
          by_cases hm':i∈l
          ·exact qIK hro hw hm' hi
          ·rw[hkeep i hm' (by omega)] at hio;exact⟨o,hio⟩
         obtain⟨o',ho'⟩:=hin
         exact hH.lt i o' ho'
        let φ2:Phi:=fun i=>if i<h.nx then φ i else if i<st.hp.nx then φ' i else φ i
        have hφ'e:∀i,i<h.nx→φ' i=φ i:=fun i hi=>(hG.phi i hi).trans (hφ1e i hi)
        have hφ'n:∀i p,φ' i=some p→i<st.hp.nx:=fun i p hp=>hN' i (hH'.dom i p hp)
        have e2:∀i,i<st.hp.nx→φ2 i=φ' i:=by
         intro i hi
         show(if i<h.nx then φ i else if i<st.hp.nx then φ' i else φ i)=_
         by_cases h1:i<h.nx
         ·rw[if_pos h1,hφ'e i h1]
         ·rw[if_neg h1,if_pos hi]
        have eN:∀i,N i→φ2 i=φ i:=by
         intro i hi
         show(if i<h.nx then φ i else if i<st.hp.nx then φ' i else φ i)=_
         by_cases h1:i<h.nx
         ·rw[if_pos h1]
         ·rw[if_neg h1]
          by_cases h2:i<st.hp.nx
          ·exact(hfr i (by omega) h2 hi).elim
          ·rw[if_neg h2]
        have hmono:∀i p,φ' i=some p→φ2 i=some p:=fun i p hp=>(e2 i (hφ'n i p hp)).trans hp
        have hobjlt:∀i o,st.hp.get i=some o→i<st.hp.nx:=fun i o ho=>hN' i (hH'.lt i o ho)
        have hown2:∀b,bR reg φ2 st.hp.get b→bR reg φ' st.hp.get b:=fun b ⟨i,o,s,k,h1,h2⟩=>⟨i,o,s,k,h1,(e2 i (hobjlt i o h1))▸h2⟩
        have hgcO:∀b,bR reg φ2 (gcH h.nx v st.hp).get b→bR reg φ2 st.hp.get b:=fun b ⟨i,o,s,k,h1,h2⟩=>⟨i,o,s,k,lV h1,h2⟩
        have hgr2:Grow h (gcH h.nx v st.hp):=by
         obtain⟨g1,l,g2,g3⟩:=hgr
         refine⟨g1,l,g2,fun i hi hn=>?_⟩
         have hn:¬(h.nx≤i∧i<st.hp.nx):=hn
         by_cases hlt':i<h.nx
         ·rw[qOU hlt'];exact g3 i hi hn
         ·have h8:(gcH h.nx v st.hp).get i=st.hp.get i:=by
           show(dJ _ st.hp.h).get i=_
           rw[dE (fun j hj=>by have:= (p9.1 hj).2;simp only[bu] at this;exact this.1),if_neg]
           ·rfl
           ·intro hm
            have:= (p9.1 hm).1
            rw[mh] at this
            omega
          rw[h8];exact g3 i hi hn
        refine⟨hR.dfs,cv,h6,cv,rfl,v,gcH h.nx v st.hp,fun i=>N i∨(N' i∧h.nx≤i),F',φ2,hQ,h7.mono reg (fun b hb=>⟨hb,rfl⟩) hmono,?_,?_⟩
        ·refine⟨fun i o ho=>(hH'.obj i o (lV ho)).mono reg (fun b hb=>⟨hb,rfl⟩) hmono (fun hn=>(e2 i (hobjlt i o (lV ho))).trans hn) (fun _ _ _ _=>rfl),fun i o b s k ho hp=>hH'.own i o b s k (lV ho) ((e2 i (hobjlt i o (lV ho)))▸hp),
          fun i j oi oj b s k s' k' hoi hoj hpi hpj=>hH'.inj i j oi oj b s k s' k' (lV hoi) (lV hoj) ((e2 i (hobjlt i oi (lV hoi)))▸hpi) ((e2 j (hobjlt j oj (lV hoj)))▸hpj),fun i p hp=>?_,fun i o ho=>?_,fun i hi=>?_,hH'.frz,hH'.lay⟩
         ·have hp:(if i<h.nx then φ i else if i<st.hp.nx then φ' i else φ i)=some p:=hp
          split at hp
          ·exact .inl (hH.dom i p hp)
          ·split at hp
           ·exact .inr ⟨hH'.dom i p hp,by omega⟩
           ·exact .inl (hH.dom i p hp)
         ·by_cases h1:i<h.nx
          ·exact .inl (hold i o (lV ho) h1)
          ·exact .inr ⟨hH'.lt i o (lV ho),by omega⟩
         ·rcases hi with hi | hi
          ·exact hH.ok i hi
          ·exact hH'.ok i hi.1
        ·refine⟨⟨hG.os,hG.tape,hG.output,hG.size,fun b hb hn=>hG.block b hb (fun h=>hn (hown b h)),hG.fsub,fun b hb=>?_,eN,fun i hi=>.inl hi,fun b hb=>?_,fun i p hp=>?_⟩,hgr2,fun i hi=>?_⟩
         ·rcases hG.fnew b hb with h1 | h1 | h1
          ·exact .inl h1
          ·exact .inr (.inl h1)
          ·exact .inr (.inr (hown b h1))
         ·rcases hG.dom b (hown2 b (hgcO b hb)) with h1 | h1
          ·exact .inl (hown b h1)
          ·exact .inr h1
         ·have hp:(if i<h.nx then φ i else if i<st.hp.nx then φ' i else φ i)=some p:=hp
          split at hp
          ·exact .inl (hH.dom i p hp)
          ·split at hp
           ·rcases hG.new i p hp with h1 | h1 | h1
            ·omega
            ·exact .inr (.inl h1)
            ·exact .inr (.inr (hown _ h1))
           ·exact .inl (hH.dom i p hp)
         ·rcases hi with hi | hi
          ·exact .inl hi
          ·exact .inr ⟨hi.2,hN' i hi.1⟩
       cases e with
       | normal=>exact fin _ he
       | ret=>exact fin _ he
       | exit id =>
        obtain⟨st,hk,_⟩:=he
        obtain⟨_,_,_,h6⟩:=hfin _ _ (dH hk)
        exact(h6 id rfl).elim
       | goto l=>exact he.elim
       | panic ch=>exact he.elim
       | outgrown=>exact he.elim
      ·cases hbo
     ·cases hbo
    ·cases hbo
   ·exact h3.elim
end
end Go.W
