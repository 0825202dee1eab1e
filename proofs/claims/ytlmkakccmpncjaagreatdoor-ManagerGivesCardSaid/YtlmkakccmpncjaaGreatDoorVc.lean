/- Part of the proof: texts Vc. No conditions. -/
import Derived.Test.YtlmkakccmpncjaaGreatDoorVb
import Derived.Orders
import Derived.Sort.LoopGhostIn
import Derived.Scope
import Derived.RangeFuncSeq
import Derived.RangeFuncLeaves
set_option linter.all false
namespace Go.W
open Go Go.RowKit
section
variable {reg:Reg} {P:Program}
theorem qQ0{hd:Hd reg.T}{op:Op}{val val':Operand→Option (V reg.T)}{h:Hp reg.T}(hv:∀x∈op.operands,val x=val' x):iM P hd op val h=iM P hd op val' h:=by
 cases op<;>(try rfl)<;>simp only[Op.operands,Call.operands] at hv<;>simp only[iM]
 case move x=>rw[hv x (by simp)]
 case assign x=>rw[hv x (by simp)]
 case pick c x y=>rw[hv x (by simp),hv y (by simp),hv c (by simp)]
 case box e x=>rw[hv x (by simp)]
 case fieldAddr s x f=>rw[hv x (by simp)]
 case load t x=>rw[hv x (by simp)]
 case store t x y=>rw[hv x (by simp),hv y (by simp)]
 case nilCheck x=>rw[hv x (by simp)]
 case binOp op t x y yt=>rw[hv x (by simp),hv y (by simp)]
 case unOp u t x=>rw[hv x (by simp)]
 case build t parts =>
  have e:(parts.toList.map fun p=>(p.1,val p.2))=parts.toList.map fun p=>(p.1,val' p.2) :=
   om fun p hp=>by rw[hv p.2 (by simp;exact⟨p.1,by simpa using hp⟩)]
  rw[e]
 case buildSlice t len parts =>
  have e:(parts.toList.map fun p=>(p.1,val p.2))=parts.toList.map fun p=>(p.1,val' p.2) :=
   om fun p hp=>by rw[hv p.2 (by simp;exact⟨p.1,by simpa using hp⟩)]
  rw[e]
 case makeSlice t l c=>rw[hv l (by simp),hv c (by simp)]
 case slice t x lo hi mx =>
  have e:∀y:Option Operand,(∀z,y=some z→val z=val' z)→y.map val=y.map val':=by
   intro y hy
   cases y with
   | none=>rfl
   | some z=>simp[hy z rfl]
  rw[hv x (by simp),e lo (fun z hz=>hv z (by subst hz;simp)),e hi (fun z hz=>hv z (by subst hz;simp)),e mx (fun z hz=>hv z (by subst hz;simp))]
 case indexAddr t x i=>rw[hv x (by simp),hv i (by simp)]
 case index t x i=>rw[hv x (by simp),hv i (by simp)]
 case field t x f=>rw[hv x (by simp)]
 case convert s d x=>rw[hv x (by simp)]
 case extract x n=>rw[hv x (by simp)]
 case makeMap t r =>
  cases r with
  | none=>rfl
  | some o=>simp only[hv o (by simp)]
 case lookup t x k ok=>rw[hv x (by simp),hv k (by simp)]
 case range t x=>rw[hv x (by simp)]
 case next x b=>rw[hv x (by simp)]
 case entry x=>rw[hv x (by simp)]
 case mapUpdate t m k x=>rw[hv m (by simp),hv k (by simp),hv x (by simp)]
 case insert t m k x=>rw[hv m (by simp),hv k (by simp),hv x (by simp)]
 case mapEntry t m k=>rw[hv m (by simp),hv k (by simp)]
 case entryStore t m n x=>rw[hv m (by simp),hv n (by simp),hv x (by simp)]
 case makeFunc fn first caps =>
  cases fn<;>(try rfl)
  simp only[]
  rw[om (f:=val) (g:=val') (l:=first.toList) (fun x hx=>hv x (by simp;exact .inl (by simpa using hx))),
   om (f:=val) (g:=val') (l:=caps.toList) (fun x hx=>hv x (by simp;exact .inr (by simpa using hx)))]
 case call c =>
  obtain⟨callee,cargs,cts⟩:=c
  have e1:cargs.toList.map val=cargs.toList.map val':=om fun x hx=>hv x (by simp;exact .inr (by simpa using hx))
  simp only[e1]
  cases callee<;>(try rfl)
  rename_i f
  have: val f=val' f:=hv f (by simp)
  simp only[this]
theorem zG{α β:Type}{f g:α→Option β}:∀{l:List α},(∀x∈l,f x=g x)→l.filterMap f=l.filterMap g
 | [],_=>rfl
 | x::l,h=>by
  rw[u6,u6,h x (by simp),zG (fun y hy=>h y (by simp[hy]))]
theorem gP{l:List Nat}{i:Nat}:kN l i=true↔i∈l:=by
 induction l with
 | nil=>simp[kN]
 | cons n l ih =>
  simp only[kN]
  cases hb:Nat.beq n i with
  | true=>simp[cu hb]
  | false =>
   have: n≠i:=fun e=>by subst e;simp[lg] at hb
   simp[ih,Ne.symm this]
theorem qB7{l:List Nat}{i j:Nat}(h:j∈l):j∈addN l i:=by
 unfold addN
 split
 ·exact h
 ·simp[h]
theorem qGN{T:Nat→Type}:∀(v:V T) (l:List Nat) (j:Nat),j∈l→j∈V.names v l:=by
 have key:∀(n:Nat) (v:V T),SizeOf.sizeOf v<n→∀(l:List Nat) (j:Nat),j∈l→j∈V.names v l:=by
  intro n
  induction n with
  | zero=>intro v hv;omega
  | succ n ih =>
   have goL:∀(vs:List (V T)),SizeOf.sizeOf vs<n+1→∀(l:List Nat) (j:Nat),j∈l→j∈V.names.goL vs l:=by
    intro vs
    induction vs with
    | nil=>intro _ l j hj;exact hj
    | cons v vs ihv =>
     intro hs l j hj
     simp only[qy] at hs
     exact ihv (by omega) _ j (ih v (by omega) l j hj)
   intro v hv l j hj
   cases v<;>simp only[V.names]
   case d=>exact hj
   case ptr=>exact qB7 hj
   case fp=>exact hj
   case sl=>exact qB7 hj
   case mp=>exact qB7 hj
   case it=>exact qB7 hj
   case fn f vs us=>simp only[V.fn.sizeOf_spec] at hv;exact goL us (by omega) _ j (goL vs (by omega) l j hj)
   case ifc t v=>simp only[V.ifc.sizeOf_spec] at hv;exact ih v (by omega) l j hj
   case agg vs=>simp only[V.agg.sizeOf_spec] at hv;exact goL vs (by omega) l j hj
   case tup vs=>simp only[V.tup.sizeOf_spec] at hv;exact goL vs (by omega) l j hj
   case undef=>exact hj
   case any=>exact hj
 intro v l j hj
 exact key (SizeOf.sizeOf v+1) v (by omega) l j hj
theorem qXo{T:Nat→Type}:∀(vs:List (V T)) (l:List Nat) (j:Nat),j∈l→j∈V.names.goL vs l
 | [],_,_,h=>h
 | v::vs,l,j,h=>qXo vs _ j (qGN v l j h)
theorem qJp{T:Nat→Type}(o:O T)(l:List Nat)(j:Nat)(h:j∈l):j∈o.names l:=by
 cases o with
 | rows k xs =>
  simp only[O.names]
  induction xs generalizing l with
  | nil=>exact h
  | cons x xs ih=>exact ih _ (qXo x l j h)
 | trows e xs=>exact h
 | map c es =>
  simp only[O.names]
  induction es generalizing l with
  | nil=>exact h
  | cons x xs ih=>exact ih _ (qGN _ _ j (qGN _ l j h))
 | sit s p=>exact h
 | mit m a b c =>
  cases m with
  | none=>exact h
  | some i=>exact qB7 h
theorem qMz{T:Nat→Type}{get:Nat→Option (O T)}:∀(n k:Nat) (l:List Nat) (j:Nat),j∈l→j∈reach get n k l:=by
 intro n
 induction n with
 | zero=>intro k l j h;exact h
 | succ n ih =>
  intro k l j h
  simp only[reach]
  split
  ·exact h
  ·split
   ·exact ih _ _ j (qJp _ l j h)
   ·exact ih _ _ j h
theorem qQ1{T:Nat→Type}{get get':Nat→Option (O T)}:∀(n k:Nat) (l:List Nat),(∀i∈reach get n k l,get i=get' i)→reach get' n k l=reach get n k l:=by
 intro n
 induction n with
 | zero=>intro k l _;rfl
 | succ n ih =>
  intro k l h
  simp only[reach] at h ⊢
  split
  ·rfl
  ·rename_i i hi
   rw[hi] at h
   simp only at h
   have hil:i∈l:=o8 hi
   have e:get i=get' i:=by
    apply h
    split
    ·exact qMz _ _ _ i (qJp _ l i hil)
    ·exact qMz _ _ _ i hil
   rw[←e]
   exact ih _ _ h
theorem qOM{T:Nat→Type}{op:Op}{val val':Operand→Option (V T)}{get get':Nat→Option (O T)}(hv:∀x∈op.operands,val x=val' x)(hg:∀i∈fK op val get,get i=get' i):fK op val' get' = fK op val get:=by
 have e:op.operands.toList.filterMap val=op.operands.toList.filterMap val':=zG (fun x hx=>hv x (by simpa using hx))
 unfold fK at *
 rw[←e]
 simp only at hg ⊢
 split
 ·rfl
 ·rename_i hm
  simp only[hm] at hg
  split
  ·rename_i hc
   simp only[hc] at hg
   exact qQ1 _ _ _ hg
  ·rfl
theorem qBq{T:Nat→Type}{get get':Nat→Option (O T)}:∀(l:List Nat) (t:Tr (O T)),(∀i∈l,get i=get' i)→l.foldl (fun t i=>t.set i (get i)) t=l.foldl (fun t i=>t.set i (get' i)) t
 | [],_,_=>rfl
 | i::l,t,h=>by
  rw[lu,lu,h i (by simp)]
  exact qBq l _ (fun j hj=>h j (by simp[hj]))
theorem qQ2{T:Nat→Type}{get get':Nat→Option (O T)}{nx:Nat}{l:List Nat}(h:∀i∈l,get i=get' i):kX get nx l=kX get' nx l:=by
 unfold kX
 rw[qBq l _ h]
theorem yM{T:Nat→Type}{get:Nat→Option (O T)}:∀(l:List Nat) (t:Tr (O T)),(∀i∈l,Tr.ok i=true)→∀j,(l.foldl (fun t i=>t.set i (get i)) t).get j=if j∈l then get j else t.get j
 | [],_,_,j=>by simp
 | i::l,t,h,j=>by
  rw[lu,yM l _ (fun k hk=>h k (by simp[hk])) j,Tr.iD (h i (by simp))]
  by_cases h1:j∈l
  ·simp[h1]
  ·by_cases h2:j=i
   ·subst h2;simp
   ·simp[h1,h2]
structure FS(T:Nat→Type) where
 env:Nat→Option (V T)
 H:Nat→Option (O T)
theorem FS.ext'{T:Nat→Type}{s s':FS T}(h1:s.env=s'.env)(h2:s.H=s'.H):s=s':=by cases s;cases s';simp_all
def qEl{T:Nat→Type}(env:Nat→Option (V T))(dst:Option Nat)(v:V T):Nat→Option (V T):=match dst with
 | some d=>fun t=>if t=d then some v else env t
 | none=>env
def uM{T:Nat→Type}(H:Nat→Option (O T))(l:List Nat)(G:Nat→Option (O T)):Nat→Option (O T):=fun i=>if i∈l then G i else H i
def FS.step{T:Nat→Type}(s:FS T)(dst:Option Nat)(v:V T)(l:List Nat)(G:Nat→Option (O T)):FS T:=⟨qEl s.env dst v,uM s.H l G⟩
def dX{T:Nat→Type}(ops:Array Oper)(o:Oper)(env:Nat→Option (V T)):Option Bool :=
 match o.guard with
 | none=>some true
 | some (j,want)=>(match (ops[j]?).bind (·.dst) with
  | none=>none
  | some d=>(match env d with | some (.d (.bool b))=>some (b==want) | some .undef=>some false | _=>none))
def Step(P:Program)(hd:Hd reg.T)(nt:Nat)(ops:Array Oper)(o:Oper)(s s':FS reg.T)(f:iZ):Prop :=
 mK nt o.dst=true ∧
 ((dX ops o s.env=some true∧f.rd=fK o.op (valOf s.env) s.H∧∃v p',(iM P hd o.op (valOf s.env) (kX s.H f.n0 f.rd)).K (·= (v,p')) ∧
   nQ f.rd p'.wr f.n0 p'.nx=true∧f.wr=p'.wr++List.range' f.n0 (p'.nx-f.n0)∧f.n1=p'.nx∧s' = s.step o.dst v f.wr p'.get) ∨
  (dX ops o s.env=some false∧f.rd=[]∧f.wr=[]∧f.n1=f.n0∧s' = s.step o.dst .undef [] (fun _=>none)))
theorem Step.form{hd:Hd reg.T}{nt:Nat}{ops:Array Oper}{o:Oper}{s s':FS reg.T}{f:iZ}(h:Step P hd nt ops o s s' f):∃v G,s' = s.step o.dst v f.wr G:=by
 rcases h.2 with⟨_,_,v,p',_,_,_,_,h3⟩ | ⟨_,_,h2,_,h3⟩
 ·exact⟨v,p'.get,h3⟩
 ·exact⟨.undef,fun _=>none,by rw[h2];exact h3⟩
theorem qJq{ops:Array Oper}{o:Oper}{t:Tmp}(h:Operand.tmp t∈o.op.operands):t∈o.looksAt ops:=by
 unfold Oper.looksAt
 simp only[dz,List.mem_filterMap]
 exact .inl ⟨.tmp t,by simpa using h,rfl⟩
theorem qJr{T:Nat→Type}{env:Nat→Option (V T)}{dst:Option Nat}{v:V T}{x:Operand}(h:∀d,dst=some d→x≠.tmp d):valOf (qEl env dst v) x=valOf env x:=by
 cases dst with
 | none=>rfl
 | some d =>
  cases x with
  | tmp t =>
   have: t≠d:=fun e=>h d rfl (by rw[e])
   simp[valOf,qEl,this]
  | const c=>rfl
  | func f=>rfl
  | global g=>rfl
theorem qFh{T:Nat→Type}{ops:Array Oper}{o:Oper}{env:Nat→Option (V T)}{dst:Option Nat}{v:V T}(h:∀d,dst=some d→d ∉ o.looksAt ops):dX ops o (qEl env dst v)=dX ops o env:=by
 unfold dX
 cases hg:o.guard with
 | none=>rfl
 | some g =>
  obtain⟨j,want⟩:=g
  simp only
  cases hd:(ops[j]?).bind (·.dst) with
  | none=>rfl
  | some d =>
   have hne:dst≠some d:=fun e=>h d e (by
    unfold Oper.looksAt
    simp only[hg,hd,dz]
    exact .inr (by simp))
   simp only
   have e:qEl env dst v d=env d:=by
    cases dst with
    | none=>rfl
    | some d' =>
     have: d≠d':=fun e=>hne (by rw[e])
     simp[qEl,this]
   rw[e]
theorem Step.agree{hd:Hd reg.T}{nt:Nat}{ops:Array Oper}{o:Oper}{s t s':FS reg.T}{f:iZ}(h:Step P hd nt ops o s s' f)(hv:∀x∈o.op.operands,valOf s.env x=valOf t.env x)(hw:dX ops o t.env=dX ops o s.env)
  (hH:∀i∈f.rd,s.H i=t.H i):∃v G,s' = s.step o.dst v f.wr G∧Step P hd nt ops o t (t.step o.dst v f.wr G) f:=by
 obtain⟨h0,h⟩:=h
 rcases h with⟨h1,h2,v,p',h3,h4,h5,h6,h7⟩ | ⟨h1,h2,h3,h4,h5⟩
 ·have e1:f.rd=fK o.op (valOf t.env) t.H:=by
   rw[h2]
   exact(qOM hv (fun i hi=>hH i (h2▸hi))).symm
  refine⟨v,p'.get,h7,h0,.inl ⟨hw.trans h1,e1,v,p',?_,h4,h5,h6,rfl⟩⟩
  rw[←qQ0 hv,←qQ2 hH]
  exact h3
 ·exact⟨.undef,fun _=>none,by rw[h3];exact h5,h0,.inr ⟨hw.trans h1,h2,h3,h4,by rw[h3]⟩⟩
theorem zAh{T:Nat→Type}{env:Nat→Option (V T)}{x y:Option Nat}{v u:V T}(h:∀d,x=some d→y≠some d):qEl (qEl env x v) y u=qEl (qEl env y u) x v:=by
 cases x with
 | none=>rfl
 | some d =>
  cases y with
  | none=>rfl
  | some d' =>
   have hne:d≠d':=fun e=>h d rfl (by rw[e])
   funext t
   simp only[qEl]
   by_cases h1:t=d'
   ·subst h1;simp[Ne.symm hne]
   ·by_cases h2:t=d
    ·subst h2;simp[h1]
    ·simp[h1,h2]
theorem zAi{T:Nat→Type}{H:Nat→Option (O T)}{l m:List Nat}{G G':Nat→Option (O T)}(h:∀i∈l,i ∉ m):uM (uM H l G) m G' = uM (uM H m G') l G:=by
 funext i
 simp only[uM]
 by_cases h1:i∈l
 ·simp[h1,h i h1]
 ·simp[h1]
theorem Step.swap{hd:Hd reg.T}{nt:Nat}{ops:Array Oper}{oa ob:Oper}{s s1 s2:FS reg.T}{fa fb:iZ}(ha:Step P hd nt ops oa s s1 fa)(hb:Step P hd nt ops ob s1 s2 fb)
  (hap:oa.apart ops ob=true) (h1:∀i∈fa.wr,i ∉ fb.rd∧i ∉ fb.wr) (h2:∀i∈fb.wr,i ∉ fa.rd∧i ∉ fa.wr):∃s1',Step P hd nt ops ob s s1' fb∧Step P hd nt ops oa s1' s2 fa:=by
 obtain⟨p1,p2,p3⟩:=Oper.apart_spec hap
 obtain⟨x,Gx,e1⟩:=ha.form
 subst e1
 obtain⟨v,G,e2,hb'⟩:=hb.agree (t:=s) (fun y hy=>qJr (fun d hd e=>by subst e;exact p1 d hd (qJq hy))) (qFh (fun d hd=>p1 d hd)).symm (fun i hi=>by
  show uM s.H fa.wr Gx i=s.H i
  simp only[uM]
  rw[if_neg (fun hx=>(h1 i hx).1 hi)])
 obtain⟨x',Gx',e3,ha'⟩:=ha.agree (t:=s.step ob.dst v fb.wr G) (fun y hy=>(qJr (fun d hd e=>by subst e;exact p3 d hd (qJq hy))).symm) (qFh (fun d hd=>p3 d hd)) (fun i hi=>by
  show s.H i=uM s.H fb.wr G i
  simp only[uM]
  rw[if_neg (fun hx=>(h2 i hx).1 hi)])
 refine⟨_,hb',?_⟩
 have: s2=(s.step ob.dst v fb.wr G).step oa.dst x' fa.wr Gx':=by
  rw[e2,e3]
  exact FS.ext' (zAh p2) (zAi (fun i hi=>(h1 i hi).2))
 rw[this]
 exact ha'
inductive Ch(P:Program)(hd:Hd reg.T)(nt:Nat)(ops:Array Oper):List iZ→FS reg.T→FS reg.T→Prop
 | nil (s:FS reg.T):Ch P hd nt ops [] s s
 | cons (f:iZ) (l:List iZ) (o:Oper) (s s1 s2:FS reg.T) (ho:ops[f.at_]? = some o) (hs:Step P hd nt ops o s s1 f) (h:Ch P hd nt ops l s1 s2):Ch P hd nt ops (f::l) s s2
def Apart(ops:Array Oper)(g f:iZ):Prop:=∀og of,ops[g.at_]? = some og→ops[f.at_]? = some of→og.apart ops of=true∧(∀i∈g.wr,i ∉ f.rd∧i ∉ f.wr)∧∀i∈f.wr,i ∉ g.rd∧i ∉ g.wr
theorem Ch.front{hd:Hd reg.T}{nt:Nat}{ops:Array Oper}{f:iZ}{l2:List iZ}:∀{l1:List iZ} {s s2:FS reg.T},Ch P hd nt ops (l1++f::l2) s s2→(∀g∈l1,Apart ops g f) →
  ∃o s1,ops[f.at_]? = some o∧Step P hd nt ops o s s1 f∧Ch P hd nt ops (l1++l2) s1 s2:=by
 intro l1
 induction l1 with
 | nil =>
  intro s s2 h _
  cases h with
  | cons _ _ o _ s1 _ ho hs h=>exact⟨o,s1,ho,hs,h⟩
 | cons g l1 ih =>
  intro s s2 h hap
  cases h with
  | cons _ _ o _ s1 _ ho hs h =>
   obtain⟨of,s1',hof,hsf,hrest⟩:=ih h (fun g' hg'=>hap g' (by simp[hg']))
   obtain⟨a1,a2,a3⟩:=hap g (by simp) o of ho hof
   obtain⟨t,h1,h2⟩:=hs.swap hsf a1 a2 a3
   exact⟨of,t,hof,h1,.cons g _ o t s1' s2 ho h2 hrest⟩
end
end Go.W
namespace Go.W
open Go Go.RowKit
section
variable {reg:Reg} {P:Program} {dl:List Deferred}
structure RF(dl:List Deferred)(N F:Nat→Prop)(φ:Phi)(nt:Nat)(s:FS reg.T)(a:Act)(w:World):Prop where
 env:∀t v,s.env t=some v→t<nt∧aI reg F w φ v (a.tmps.getD t undef)
 size:a.tmps.size=nt
 heap:qI reg F φ N s.H w
 dfs:a.defers=dl
theorem qI.sub{F:Nat→Prop}{φ:Phi}{N:Nat→Prop}{H H':Nat→Option (O reg.T)}{w:World}(h:qI reg F φ N H w)(hs:∀i o,H' i=some o→H i=some o):qI reg F φ N H' w :=
 ⟨fun i o ho=>h.obj i o (hs i o ho),fun i o b s k ho hp=>h.own i o b s k (hs i o ho) hp,fun i j oi oj b s k s' k' hi hj=>h.inj i j oi oj b s k s' k' (hs _ _ hi) (hs _ _ hj),h.dom,fun i o ho=>h.lt i o (hs i o ho),h.ok,h.frz,h.lay⟩
theorem sU{l wr:List Nat}{n0 n1:Nat}(h:nQ l wr n0 n1=true):n0≤n1∧Tr.ok n1=true∧(∀i∈l,Tr.ok i=true)∧∀i∈wr,i∈l∨(n0≤i∧i<n1):=by
 unfold nQ at h
 simp only[bn,fw,ni,gP] at h
 refine⟨by simpa using h.1.1.1,h.1.1.2,h.1.2,fun i hi=>?_⟩
 rcases h.2 i hi with h1 | h1
 ·exact .inl h1
 ·exact .inr ⟨by simpa using h1.1,by simpa using h1.2⟩
theorem qM0{H:Nat→Option (O reg.T)}{n0:Nat}{l:List Nat}(hl:∀i∈l,Tr.ok i=true)(j:Nat):(kX H n0 l).get j=if j∈l then H j else none:=by
 unfold kX Hp.get
 rw[yM l _ hl j]
 simp[Tr.qXc]
theorem zCZ{N F:Nat→Prop}{φ:Phi}{H:Nat→Option (O reg.T)}{w w':World}{l:List Nat}{n0:Nat}{v:V reg.T}{p':Hp reg.T}{cv:Value}(hH:qI reg F φ N H w)
  (hok:nQ l p'.wr n0 p'.nx=true) (hR:Res N F φ (kX H n0 l) w (·= (v,p')) cv w') :
  ∃N' F' φ',aI reg F' w' φ' v cv∧qI reg F' φ' N' (uM H (p'.wr++List.range' n0 (p'.nx-n0)) p'.get) w' ∧
   Goes reg F φ N H w F' φ' N' (uM H (p'.wr++List.range' n0 (p'.nx-n0)) p'.get) w'∧∀i,N' i→N i∨(n0≤i∧i<p'.nx):=by
 obtain⟨ho1,ho2,ho3,ho4⟩:=sU hok
 obtain⟨v1,h1,N',F',φ',hq,hv,hP,hG⟩:=hR
 cases hq
 have hg:=qM0 (H:=H) (n0:=n0) ho3
 have hsub:∀i o,(kX H n0 l).get i=some o→H i=some o:=by
  intro i o hi
  rw[hg] at hi
  split at hi
  ·exact hi
  ·cases hi
 have hHp:=hH.sub hsub
 have hin:∀i,i∈p'.wr++List.range' n0 (p'.nx-n0)→uM H (p'.wr++List.range' n0 (p'.nx-n0)) p'.get i=p'.get i:=fun i hi=>by simp only[uM];rw[if_pos hi]
 have hout:∀i,i ∉ p'.wr++List.range' n0 (p'.nx-n0)→uM H (p'.wr++List.range' n0 (p'.nx-n0)) p'.get i=H i∧p'.get i=(kX H n0 l).get i:=by
  intro i hi
  refine⟨by simp only[uM];rw[if_neg hi],?_⟩
  simp only[dz,not_or] at hi
  obtain⟨_,L,hL,hgr⟩:=hG.grow
  have e:p'.wr=L:=by rw[hL];simp[kX]
  refine hgr i (fun h=>hi.1 (e▸h)) (fun h=>hi.2 ?_)
  have h':n0≤i∧i<p'.nx:=h
  rw[mh]
  omega
 have cases':∀i o,uM H (p'.wr++List.range' n0 (p'.nx-n0)) p'.get i=some o→p'.get i=some o∨(H i=some o∧i ∉ l):=by
  intro i o hi
  by_cases hm:i∈p'.wr++List.range' n0 (p'.nx-n0)
  ·rw[hin i hm] at hi;exact .inl hi
  ·obtain⟨e1,e2⟩:=hout i hm
   rw[e1] at hi
   by_cases hl:i∈l
   ·left;rw[e2,hg,if_pos hl,hi]
   ·exact .inr ⟨hi,hl⟩
 have hOwn:∀b,fP reg φ (kX H n0 l).get b→fP reg φ H b:=fun b ⟨i,o,s,k,hi,hp⟩=>⟨i,o,s,k,hsub i o hi,hp⟩
 have apart:∀i o b s k,H i=some o→i ∉ l→φ i=some (b,s,k)→¬fP reg φ (kX H n0 l).get b:=by
  rintro i o b s k hi hl hp ⟨j,oj,s',k',hj,hpj⟩
  have hjl:j∈l:=by
   rw[hg] at hj
   by_cases h:j∈l
   ·exact h
   ·rw[if_neg h] at hj;cases hj
  have:= hH.inj i j o oj b s k s' k' hi (hsub j oj hj) hp hpj
  exact hl (this▸hjl)
 have keep:=hG.goes.keep hHp
 have old:∀i o,H i=some o→φ' i=φ i:=fun i o hi=>hG.goes.phi i (hH.lt i o hi)
 have oldb:∀i o b s k,H i=some o→i ∉ l→φ i=some (b,s,k)→w'.heap[b]? = w.heap[b]?:=fun i o b s k hi hl hp=>hG.goes.block b (hH.own i o b s k hi hp).2 (apart i o b s k hi hl hp)
 have oldF:∀i o b s k,H i=some o→i ∉ l→φ i=some (b,s,k)→¬F' b:=by
  intro i o b s k hi hl hp hf
  rcases hG.goes.fnew b hf with h | h | h
  ·exact(hH.own i o b s k hi hp).1 h
  ·have:= (hH.own i o b s k hi hp).2;omega
  ·exact apart i o b s k hi hl hp h
 have mixed:∀i j oi oj b s k s' k',p'.get i=some oi→(H j=some oj∧j ∉ l)→φ' i=some (b,s,k)→φ' j=some (b,s',k')→False:=by
  intro i j oi oj b s k s' k' hi hj hpi hpj
  rw[old j oj hj.1] at hpj
  rcases hG.goes.dom b ⟨i,oi,s,k,hi,hpi⟩ with h | h
  ·exact apart j oj b s' k' hj.1 hj.2 hpj h
  ·have:= (hH.own j oj b s' k' hj.1 hpj).2;omega
 refine⟨N',F',φ',hv,⟨fun i o hi=>?_,fun i o b s k hi hp=>?_,fun i j oi oj b s k s' k' hi hj hpi hpj=>?_,hP.dom,fun i o hi=>?_,hP.ok,hP.frz,hP.lay⟩,⟨hG.goes.os,hG.goes.tape,hG.goes.output,hG.goes.size,fun b hb hn=>hG.goes.block b hb (fun h=>hn (hOwn b h)),hG.goes.fsub,fun b hb=>?_,hG.goes.phi,hG.goes.names,fun b hb=>?_,fun i p hp=>?_⟩,hG.names⟩
 ·rcases cases' i o hi with h | ⟨h,hl⟩
  ·exact hP.obj i o h
  ·exact(hH.obj i o h).mono reg keep.1 keep.2 (fun e=>by rw[old i o h];exact e) (fun b s k hp=>oldb i o b s k h hl hp)
 ·rcases cases' i o hi with h | ⟨h,hl⟩
  ·exact hP.own i o b s k h hp
  ·rw[old i o h] at hp
   exact⟨oldF i o b s k h hl hp,ig (hH.own i o b s k h hp).2 hG.goes.size⟩
 ·rcases cases' i oi hi with h | h<;>rcases cases' j oj hj with h' | h'
  ·exact hP.inj i j oi oj b s k s' k' h h' hpi hpj
  ·exact(mixed i j oi oj b s k s' k' h h' hpi hpj).elim
  ·exact(mixed j i oj oi b s' k' s k h' h hpj hpi).elim
  ·rw[old i oi h.1] at hpi
   rw[old j oj h'.1] at hpj
   exact hH.inj i j oi oj b s k s' k' h.1 h'.1 hpi hpj
 ·rcases cases' i o hi with h | ⟨h,_⟩
  ·exact hP.lt i o h
  ·exact hG.goes.names i (hH.lt i o h)
 ·rcases hG.goes.fnew b hb with h | h | h
  ·exact .inl h
  ·exact .inr (.inl h)
  ·exact .inr (.inr (hOwn b h))
 ·obtain⟨i,o,s,k,hi,hp⟩:=hb
  rcases cases' i o hi with h | ⟨h,hl⟩
  ·rcases hG.goes.dom b ⟨i,o,s,k,h,hp⟩ with h2 | h2
   ·exact .inl (hOwn b h2)
   ·exact .inr h2
  ·rw[old i o h] at hp
   exact .inl ⟨i,o,s,k,h,hp⟩
 ·rcases hG.goes.new i p hp with h | h | h
  ·exact .inl h
  ·exact .inr (.inl h)
  ·exact .inr (.inr (hOwn _ h))
theorem vF{N F:Nat→Prop}{φ:Phi}{nt:Nat}{s:FS reg.T}{a:Act}{w:World}(hR:RF dl N F φ nt s a w){x:Operand}{v:V reg.T}(h:valOf s.env x=some v):aI reg F w φ v (a.eval x):=by
 cases x with
 | tmp t =>
  have:= (hR.env t v h).2
  simpa [Act.eval,fe] using this
 | const c=>simp only[valOf,bz] at h;subst h;exact aI.ofValue c
 | func f=>simp only[valOf,bz] at h;subst h;exact .fn f [] [] #[] #[] rfl (fun j hj=>by simp at hj) rfl (fun j hj=>by simp at hj)
 | global g=>simp[valOf] at h
theorem qO{N F:Nat→Prop}{φ:Phi}{nt:Nat}{s:FS reg.T}{a:Act}{w:World}(hR:RF dl N F φ nt s a w){ops:Array Oper}{o:Oper}{b:Bool}(hb:dX ops o s.env=some b):Region.wanted o (yielded ops a.tmps)=b:=by
 unfold dX at hb
 unfold Region.wanted
 cases hg:o.guard with
 | none=>rw[hg] at hb;simpa using hb
 | some g =>
  obtain⟨j,want⟩:=g
  rw[hg] at hb
  simp only at hb ⊢
  cases hdj:(ops[j]?).bind (·.dst) with
  | none=>rw[hdj] at hb;simp at hb
  | some d =>
   rw[hdj] at hb
   simp only at hb
   obtain⟨oj,hoj,hdd⟩:=gm.1 hdj
   split at hb
   ·rename_i x hx
    have hv:=(hR.env d _ hx).2
    have hlt:d<a.tmps.size:=by rw[hR.size];exact(hR.env d _ hx).1
    have hz:=hv.kG
    have he:a.tmps[d]? = some (.bool x):=by
     simp only[fe,nk hlt,qj] at hz
     rw[nk hlt,hz]
    unfold yielded
    simp only[bz] at hb
    subst hb
    simp[hoj,hdd,he]
   ·rename_i hx
    have hv:=(hR.env d _ hx).2
    have hlt:d<a.tmps.size:=by rw[hR.size];exact(hR.env d _ hx).1
    generalize hz:a.tmps.getD d Go.undef=z at hv
    cases hv with
    | undef =>
     have he:a.tmps[d]? = some Go.undef:=by
      simp only[fe,nk hlt,qj] at hz
      rw[nk hlt,hz]
     unfold yielded
     simp only[bz] at hb
     subst hb
     simp[hoj,hdd,he,Go.undef]
   ·simp at hb
theorem RF.put{N N' F F':Nat→Prop}{φ φ':Phi}{nt:Nat}{s:FS reg.T}{a:Act}{w w':World}{H':Nat→Option (O reg.T)}(hR:RF dl N F φ nt s a w)(hH':qI reg F' φ' N' H' w')
  (hG:Goes reg F φ N s.H w F' φ' N' H' w') {dst:Option Nat} (hd:mK nt dst=true) {v:V reg.T} {cv:Value} (hv:aI reg F' w' φ' v cv):RF dl N' F' φ' nt ⟨qEl s.env dst v,H'⟩ (a.put dst cv) w':=by
 have hold:∀t x,s.env t=some x→t<nt∧aI reg F' w' φ' x (a.tmps.getD t undef):=fun t x hx=>⟨(hR.env t x hx).1,hG.val hR.heap (hR.env t x hx).2⟩
 cases dst with
 | none=>exact⟨hold,hR.size,hH',hR.dfs⟩
 | some d =>
  have hd':d<nt:=by simpa [mK] using hd
  refine⟨fun t x hx=>?_,by simp[Act.put,hR.size],hH',hR.dfs⟩
  simp only[qEl] at hx
  by_cases ht:t=d
  ·subst ht
   rw[if_pos rfl] at hx
   cases hx
   refine⟨hd',?_⟩
   have hs:=hR.size
   simp only[Act.put,fe,jr]
   simp only[if_true]
   rw[if_pos (by omega)]
   exact hv
  ·rw[if_neg ht] at hx
   have:= hold t x hx
   refine⟨this.1,?_⟩
   simp only[Act.put,fe,jr]
   rw[if_neg (Ne.symm ht)]
   simpa [fe] using this.2
theorem zH{env:Tr (V reg.T)}{nt:Nat}(hnt:nt≤1000000){dst:Option Nat}(hd:mK nt dst=true)(v:V reg.T)(h:Hp reg.T):(St.put ⟨env,h⟩ dst v).env.get=qEl env.get dst v:=by
 cases dst with
 | none=>rfl
 | some d =>
  have hd':d<nt:=by simpa [mK] using hd
  funext t
  show(env.set d (some v)).get t=_
  rw[Tr.iD (by unfold Tr.ok;simp;omega)]
  rfl
variable {hd:Hd reg.T} {nt:Nat}
theorem Step.sound{r:Option Nat}{m:Nat}(hHd:bI P hd){ops:Array Oper}{i:Nat}{o:Oper}(hi:ops[i]? = some o){s s':FS reg.T}{f:iZ}(h:Step P hd nt ops o s s' f)
  {N F:Nat→Prop} {φ:Phi} {a:Act} {w:World} (hR:RF dl N F φ nt s a w) (hfr:gM N f.n0 f.n1) {K:Act→World→Prop} {Q:Exit→Act→World→Prop}
  (hK:∀N' F' φ' a' w',RF dl N' F' φ' nt s' a' w'→Goes reg F φ N s.H w F' φ' N' s'.H w'→(∀i,N' i→N i∨(f.n0≤i∧i<f.n1))→K a' w'):wpOpIn (Fr r) m P ops Q i K a w:=by
 obtain⟨hdst,h⟩:=h
 unfold wpOpIn
 simp only[hi]
 rcases h with⟨h1,h2,v,p',h3,h4,h5,h6,h7⟩ | ⟨h1,h2,h3,h4,h5⟩
 ·rw[if_pos (qO hR h1)]
  obtain⟨_,_,hk,_⟩:=sU h4
  refine qQz (N:=N) (F:=F) (φ:=φ) (h:=kX s.H f.n0 f.rd) hHd (o:=o) (Q:=(·= (v,p'))) (val:=valOf s.env) ?_ ?_ (fun x v hx=>vF hR hx) h3 (fun cv w' hres=>?_)
  ·refine hR.heap.sub (fun i o hi=>?_)
   rw[qM0 hk] at hi
   split at hi
   ·exact hi
   ·cases hi
  ·rintro r rfl
   show gM N f.n0 p'.nx
   rw[←h6];exact hfr
  ·obtain⟨N',F',φ',hv,hH',hG,hN⟩:=zCZ hR.heap h4 hres
   subst h7
   rw[←h5] at hH' hG
   rw[←h6] at hN
   exact hK N' F' φ' _ w' (hR.put hH' hG hdst hv) hG hN
 ·rw[if_neg (by rw[qO hR h1];simp)]
  have e:uM s.H [] (fun _=>none)=s.H:=by funext i;simp[uM]
  refine⟨fun _ _=>trivial,hK N F φ _ w ?_ ?_ (fun i hi=>.inl hi)⟩
  ·rw[h5]
   show RF dl N F φ nt ⟨qEl s.env o.dst .undef,uM s.H [] (fun _=>none)⟩ _ w
   rw[e]
   exact hR.put hR.heap (Goes.refl reg hR.heap) hdst .undef
  ·rw[h5]
   show Goes reg F φ N s.H w F φ N (uM s.H [] (fun _=>none)) w
   rw[e]
   exact Goes.refl reg hR.heap
end
end Go.W
namespace Go.W
open Go Go.RowKit
section
variable {reg:Reg} {P:Program} {hd:Hd reg.T} {nt:Nat} {dl:List Deferred}
theorem nR(st:St reg.T)(dst:Option Nat)(v:V reg.T):(st.put dst v).hp=st.hp:=by cases dst<;>rfl
theorem qQ3{i n:Nat}(h:Tr.ok n=true)(hi:i<n):Tr.ok i=true:=by unfold Tr.ok at *;simp at *;omega
theorem qQ4{h p:Hp reg.T}{l:List Nat}(hl:∀i∈l,Tr.ok i=true):(h.join p l).get=uM h.get l p.get:=by
 funext j
 show(l.foldl (fun t i=>t.set i (p.get i)) h.h).get j=_
 rw[yM l _ hl j]
 rfl
theorem qJs{l wr:List Nat}{n0 n1:Nat}(h:nQ l wr n0 n1=true):∀i∈wr++List.range' n0 (n1-n0),Tr.ok i=true:=by
 obtain⟨h1,h2,h3,h4⟩:=sU h
 intro i hi
 rcases dz.1 hi with hi | hi
 ·rcases h4 i hi with h | h
  ·exact h3 i h
  ·exact qQ3 h2 h.2
 ·rw[mh] at hi
  exact qQ3 h2 (by omega)
theorem zAj{h p:Hp reg.T}{l:List Nat}(hok:nQ l p.wr h.nx p.nx=true):Grow h (h.join p (p.wr++List.range' h.nx (p.nx-h.nx))):=by
 refine⟨(sU hok).1,p.wr,rfl,fun i hi hn=>?_⟩
 rw[qQ4 (qJs hok)]
 simp only[uM]
 rw[if_neg]
 intro hm
 rcases dz.1 hm with h1 | h1
 ·exact hi h1
 ·rw[mh] at h1
  exact hn ⟨h1.1,by show i<p.nx;omega⟩
structure Rng(l:List iZ)(lo hi:Nat):Prop where
 le:lo≤hi
 in_:∀f∈l,lo≤f.n0∧f.n0≤f.n1∧f.n1≤hi
 ord:l.Pairwise (fun f g=>f.n1≤g.n0∨g.n1≤f.n0)
theorem qFi(hnt:nt≤1000000){ops:Array Oper}:∀{rest:List Oper} {n:Nat} {st:St reg.T} {tr:List iZ} {Q:St reg.T×List iZ→Prop},(jY P hd nt ops rest n st tr).K Q →
  (∀j,rest[j]? = ops[n+j]?)→∃l st',Ch P hd nt ops l ⟨st.env.get,st.hp.get⟩ ⟨st'.env.get,st'.hp.get⟩∧Q (st',l.reverse++tr)∧l.map (·.at_)=List.range' n rest.length∧Grow st.hp st'.hp∧Rng l st.hp.nx st'.hp.nx:=by
 intro rest
 induction rest with
 | nil=>intro n st tr Q h _;exact⟨[],st,.nil _,h,rfl,Grow.refl _,⟨df _,by simp,.nil⟩⟩
 | cons o rest ih =>
  intro n st tr Q h hr
  have ho:ops[n]? = some o:=by have:= hr 0;simpa using this.symm
  have hr':∀j,rest[j]? = ops[n+1+j]?:=fun j=>by have:= hr (j+1);simp only[o9] at this;rw[this];congr 1;omega
  simp only[jY] at h
  split at h
  ·exact h.elim
  rename_i hdst
  have run:dX ops o st.env.get=some true →
    ((iM P hd o.op (valOf st.env.get) (kX st.hp.get st.hp.nx (fK o.op (valOf st.env.get) st.hp.get))).bind fun r =>
     Out.ask (nQ (fK o.op (valOf st.env.get) st.hp.get) r.2.wr st.hp.nx r.2.nx) (jY P hd nt ops rest (n+1) (St.put ⟨st.env,st.hp.join r.2 (r.2.wr++List.range' st.hp.nx (r.2.nx-st.hp.nx))⟩ o.dst r.1)
      (⟨n,fK o.op (valOf st.env.get) st.hp.get,r.2.wr++List.range' st.hp.nx (r.2.nx-st.hp.nx),st.hp.nx,r.2.nx⟩::tr))).K Q →
    ∃l st',Ch P hd nt ops l ⟨st.env.get,st.hp.get⟩ ⟨st'.env.get,st'.hp.get⟩∧Q (st',l.reverse++tr)∧l.map (·.at_)=List.range' n (rest.length+1)∧Grow st.hp st'.hp∧Rng l st.hp.nx st'.hp.nx:=by
   intro hw h
   rw[Out.cO] at h
   obtain⟨⟨v,p'⟩,h1,h2⟩:=(Out.fF _ _).1 h
   obtain⟨hok,h2⟩:=Out.dR.1 h2
   simp only at h2 hok
   obtain⟨l,st',h4,h5,h6,h7,h8⟩:=ih h2 hr'
   rw[nR] at h7 h8
   have hg:=(zAj hok).trans h7
   have hle:=(sU hok).1
   refine⟨⟨n,_,_,st.hp.nx,p'.nx⟩::l,st',.cons _ l o _ _ _ ho ⟨hdst,.inl ⟨hw,rfl,v,p',h1,hok,rfl,rfl,rfl⟩⟩ ?_,by rw[uo,mi];exact h5,by simp[h6,sj],hg,⟨hg.1,fun f hf=>?_,?_⟩⟩
   ·have e:(⟨(St.put ⟨st.env,st.hp.join p' (p'.wr++List.range' st.hp.nx (p'.nx-st.hp.nx))⟩ o.dst v).env.get,(St.put ⟨st.env,st.hp.join p' (p'.wr++List.range' st.hp.nx (p'.nx-st.hp.nx))⟩ o.dst v).hp.get⟩:FS reg.T) =
      FS.step ⟨st.env.get,st.hp.get⟩ o.dst v (p'.wr++List.range' st.hp.nx (p'.nx-st.hp.nx)) p'.get:=by
     refine FS.ext' (zH hnt hdst v _) ?_
     rw[nR]
     exact qQ4 (qJs hok)
    rw[e] at h4
    exact h4
   ·rcases fo.1 hf with rfl | hf
    ·exact⟨df _,hle,h8.le⟩
    ·obtain⟨a,b,c⟩:=h8.in_ f hf
     have a':p'.nx≤f.n0:=a
     exact⟨by omega,b,c⟩
   ·refine ja.2 ⟨fun g hg=>.inl ?_,h8.ord⟩
    exact(h8.in_ g hg).1
  have skip:dX ops o st.env.get=some false→(jY P hd nt ops rest (n+1) (st.put o.dst .undef) (⟨n,[],[],st.hp.nx,st.hp.nx⟩::tr)).K Q →
    ∃l st',Ch P hd nt ops l ⟨st.env.get,st.hp.get⟩ ⟨st'.env.get,st'.hp.get⟩∧Q (st',l.reverse++tr)∧l.map (·.at_)=List.range' n (rest.length+1)∧Grow st.hp st'.hp∧Rng l st.hp.nx st'.hp.nx:=by
   intro hw h
   obtain⟨l,st',h4,h5,h6,h7,h8⟩:=ih h hr'
   rw[nR] at h7 h8
   refine⟨⟨n,[],[],st.hp.nx,st.hp.nx⟩::l,st',.cons _ l o _ _ _ ho ⟨hdst,.inr ⟨hw,rfl,rfl,rfl,rfl⟩⟩ ?_,by rw[uo,mi];exact h5,by simp[h6,sj],h7,⟨h8.le,fun f hf=>?_,?_⟩⟩
   ·have e:(⟨(St.put st o.dst .undef).env.get,(St.put st o.dst .undef).hp.get⟩:FS reg.T)=FS.step ⟨st.env.get,st.hp.get⟩ o.dst .undef [] (fun _=>none):=by
     refine FS.ext' (zH (env:=st.env) hnt hdst _ st.hp) ?_
     rw[nR]
     funext i;simp[FS.step,uM]
    rw[e] at h4
    exact h4
   ·rcases fo.1 hf with rfl | hf
    ·exact⟨df _,df _,h8.le⟩
    ·exact h8.in_ f hf
   ·exact ja.2 ⟨fun g hg=>.inl (h8.in_ g hg).1,h8.ord⟩
  cases hg:o.guard with
  | none =>
   rw[hg] at h
   exact run (by simp[dX,hg]) h
  | some g =>
   obtain⟨j,want⟩:=g
   rw[hg] at h
   simp only at h
   cases hdj:(ops[j]?).bind (·.dst) with
   | none=>rw[hdj] at h;exact h.elim
   | some d =>
    rw[hdj] at h
    simp only at h
    split at h
    ·rename_i b hb
     have hw:dX ops o st.env.get=some (b==want):=by simp[dX,hg,hdj,hb]
     cases b<;>cases want<;>simp only[Out.K,branch,St.jJ hb] at h<;>first | exact run (by simpa using hw) h | exact skip (by simpa using hw) h
    ·rename_i hb
     exact skip (by simp[dX,hg,hdj,hb]) h
    ·exact h.elim
theorem qJt{ops:Array Oper}:∀{rest:List Oper} {st:St reg.T} {Q:St reg.T→Prop},(jK P hd nt ops rest st).K Q→(jK P hd nt ops rest st).K fun st'=>Q st'∧st.hp.nx≤st'.hp.nx:=by
 intro rest
 induction rest with
 | nil=>intro st Q h;exact⟨h,df _⟩
 | cons o rest ih =>
  intro st Q h
  simp only[jK] at h ⊢
  split at h
  ·exact h.elim
  have run:((iM P hd o.op (valOf st.env.get) st.hp).bind fun r=>Out.ask (Nat.ble st.hp.nx r.2.nx) (jK P hd nt ops rest (St.put ⟨st.env,r.2⟩ o.dst r.1))).K Q →
    ((iM P hd o.op (valOf st.env.get) st.hp).bind fun r=>Out.ask (Nat.ble st.hp.nx r.2.nx) (jK P hd nt ops rest (St.put ⟨st.env,r.2⟩ o.dst r.1))).K fun st'=>Q st'∧st.hp.nx≤st'.hp.nx:=by
   intro h
   rw[Out.cO] at h ⊢
   refine Out.eU h (fun r hr=>?_)
   obtain⟨h1,h2⟩:=Out.dR.1 hr
   refine Out.dR.2 ⟨h1,Out.eU (ih h2) (fun st' ⟨a,b⟩=>⟨a,?_⟩)⟩
   rw[nR] at b
   have h1':st.hp.nx≤r.2.nx:=by simpa using h1
   exact bq h1' b
  have skip:(jK P hd nt ops rest (st.put o.dst .undef)).K Q→(jK P hd nt ops rest (st.put o.dst .undef)).K fun st'=>Q st'∧st.hp.nx≤st'.hp.nx:=by
   intro h
   refine Out.eU (ih h) (fun st' ⟨a,b⟩=>⟨a,?_⟩)
   rwa [nR] at b
  cases hg:o.guard with
  | none=>rw[hg] at h;exact run h
  | some g =>
   obtain⟨j,want⟩:=g
   rw[hg] at h
   simp only at h ⊢
   cases hdj:(ops[j]?).bind (·.dst) with
   | none=>rw[hdj] at h;exact h.elim
   | some d =>
    rw[hdj] at h
    simp only at h ⊢
    split at h
    ·rename_i b hb
     cases b<;>cases want<;>simp only[Out.K,branch,St.jJ hb] at h ⊢<;>first | exact run h | exact skip h
    ·exact skip h
    ·exact h.elim
theorem qQ5{r:Option Nat}{m:Nat}(hHd:bI P hd)(hnt:nt≤1000000){ops:Array Oper}{Qx:Exit→Act→World→Prop}:∀{rest:List Oper} {n:Nat} {st:St reg.T} {Q:St reg.T→Prop},(jK P hd nt ops rest st).K Q →
  (∀j,rest[j]? = ops[n+j]?)→∀{N F:Nat→Prop} {φ:Phi} {a:Act} {w:World},RF dl N F φ nt ⟨st.env.get,st.hp.get⟩ a w→(∀st',Q st'→gM N st.hp.nx st'.hp.nx) →
  (∀st' N' F' φ' a' w',Q st'→RF dl N' F' φ' nt ⟨st'.env.get,st'.hp.get⟩ a' w'→GO N F φ st.hp w N' F' φ' st'.hp w'→Qx .normal a' w')→wpOpsIn (Fr r) m P ops Qx (List.range' n rest.length) a w:=by
 intro rest
 induction rest with
 | nil=>intro n st Q h _ N F φ a w hR _ hQ;exact hQ st _ _ _ _ _ h hR (GO.refl hR.heap)
 | cons o rest ih =>
  intro n st Q h hr N F φ a w hR hfr hQ
  have ho:ops[n]? = some o:=by have:= hr 0;simpa using this.symm
  have hr':∀j,rest[j]? = ops[n+1+j]?:=fun j=>by have:= hr (j+1);simp only[o9] at this;rw[this];congr 1;omega
  simp only[jK] at h
  split at h
  ·exact h.elim
  rename_i hdst
  rw[dw,sj,wpOpsIn_cons]
  have run:dX ops o st.env.get=some true→((iM P hd o.op (valOf st.env.get) st.hp).bind fun r=>Out.ask (Nat.ble st.hp.nx r.2.nx) (jK P hd nt ops rest (St.put ⟨st.env,r.2⟩ o.dst r.1))).K Q →
    wpOpIn (Fr r) m P ops Qx n (wpOpsIn (Fr r) m P ops Qx (List.range' (n+1) rest.length)) a w:=by
   intro hw h
   unfold wpOpIn
   simp only[ho]
   rw[if_pos (qO hR hw)]
   rw[Out.cO] at h
   obtain⟨⟨v,p'⟩,h1,h2⟩:=(Out.fF _ _).1 h
   obtain⟨hle,h2⟩:=Out.dR.1 h2
   have hle:st.hp.nx≤p'.nx:=by simpa using hle
   simp only at h2
   obtain⟨rr,hrr,hrq,hrn⟩:=(Out.fF _ _).1 (qJt h2)
   rw[nR] at hrn
   have hf0:=hfr rr hrq
   refine qQz hHd (o:=o) (Q:=(·= (v,p'))) (val:=valOf st.env.get) hR.heap ?_ (fun x v hx=>vF hR hx) h1 (fun cv w' hres=>?_)
   ·rintro r' rfl i hi1 hi2
    exact hf0 i hi1 (ig hi2 hrn)
   ·obtain⟨v',h',N',F',φ',hq,hv,hH',hG⟩:=hres
    cases hq
    have hput:RF dl N' F' φ' nt ⟨(St.put ⟨st.env,p'⟩ o.dst v).env.get,(St.put ⟨st.env,p'⟩ o.dst v).hp.get⟩ (a.put o.dst cv) w':=by
     rw[nR,zH hnt hdst]
     exact hR.put hH' hG.goes hdst hv
    refine ih (Q:=(·= rr)) hrr hr' hput ?_ ?_
    ·rintro st' rfl i hi1 hi2 hi3
     rw[nR] at hi1
     rcases hG.names i hi3 with h | h
     ·exact hf0 i (bq hle hi1) hi2 h
     ·have:= h.2;simp only at hi1;omega
    ·rintro st' N'' F'' φ'' a'' w'' rfl hR'' hG''
     rw[nR] at hG''
     exact hQ st' _ _ _ _ _ hrq hR'' (hG.trans hG'')
  have skip:dX ops o st.env.get=some false→(jK P hd nt ops rest (st.put o.dst .undef)).K Q →
    wpOpIn (Fr r) m P ops Qx n (wpOpsIn (Fr r) m P ops Qx (List.range' (n+1) rest.length)) a w:=by
   intro hw h
   unfold wpOpIn
   simp only[ho]
   rw[if_neg (by rw[qO hR hw];simp)]
   have hput:RF dl N F φ nt ⟨(St.put st o.dst .undef).env.get,(St.put st o.dst .undef).hp.get⟩ (a.put o.dst undef) w:=by
    rw[nR,zH (env:=st.env) hnt hdst]
    exact hR.put hR.heap (Goes.refl reg hR.heap) hdst .undef
   refine⟨fun _ _=>trivial,ih h hr' hput (fun st' hq=>?_) (fun st' N' F' φ' a' w' hq hR' hG=>?_)⟩
   ·rw[nR];exact hfr st' hq
   ·rw[nR] at hG;exact hQ st' _ _ _ _ _ hq hR' hG
  cases hg:o.guard with
  | none =>
   rw[hg] at h
   exact run (by simp[dX,hg]) h
  | some g =>
   obtain⟨j,want⟩:=g
   rw[hg] at h
   simp only at h
   cases hdj:(ops[j]?).bind (·.dst) with
   | none=>rw[hdj] at h;exact h.elim
   | some d =>
    rw[hdj] at h
    simp only at h
    split at h
    ·rename_i b hb
     have hw:dX ops o st.env.get=some (b==want):=by simp[dX,hg,hdj,hb]
     cases b<;>cases want<;>simp only[Out.K,branch,St.jJ hb] at h<;>first | exact run (by simpa using hw) h | exact skip (by simpa using hw) h
    ·rename_i hb
     exact skip (by simp[dX,hg,hdj,hb]) h
    ·exact h.elim
inductive Ahead(ops:Array Oper):Nat→Nat→Prop
 | one (i j:Nat) (o:Oper) (e:Edge) (ho:ops[i]? = some o) (he:e∈o.after.toList) (hb:Region.binds .any e=true) (hj:e.on=j):Ahead ops i j
 | more (i j:Nat) (o:Oper) (e:Edge) (ho:ops[i]? = some o) (he:e∈o.after.toList) (hb:Region.binds .any e=true) (hj:Ahead ops e.on j):Ahead ops i j
theorem qUy{ops:Array Oper}{acc:List Nat}(hacc:∀i m j,acc[i]? = some m→m.testBit j=true→Ahead ops i j){i:Nat}{o:Oper}(ho:ops[i]? = some o) :
  ∀(es:List Edge),(∀e∈es,e∈o.after.toList)→∀(s:Nat),(∀j,s.testBit j=true→Ahead ops i j)→∀j,
   (es.foldl (fun s e=>match Region.binds .any e with | true=>s ||| 2 ^ e.on ||| acc.getD e.on 0 | false=>s) s).testBit j=true→Ahead ops i j:=by
 intro es
 induction es with
 | nil=>intro _ s hs j h;exact hs j h
 | cons e es ih =>
  intro hes s hs j h
  rw[lu] at h
  refine ih (fun e' he'=>hes e' (by simp[he'])) _ (fun j' hj'=>?_) j h
  cases hb:Region.binds .any e with
  | false=>simp only[hb] at hj';exact hs j' hj'
  | true =>
   simp only[hb,Nat.testBit_or,ni,Nat.testBit_two_pow,decide_eq_true_eq] at hj'
   rcases hj' with(hj' | hj') | hj'
   ·exact hs j' hj'
   ·exact .one i j' o e ho (hes e (by simp)) hb hj'
   ·cases hm:acc[e.on]? with
    | none=>simp[List.getD,hm] at hj'
    | some m =>
     simp only[List.getD,hm,qj] at hj'
     exact .more i j' o e ho (hes e (by simp)) hb (hacc _ m j' hm hj')
theorem qUz{ops:Array Oper}:∀(r:List Oper) (acc:List Nat),(∀j,r[j]? = ops[acc.length+j]?)→(∀i m j,acc[i]? = some m→m.testBit j=true→Ahead ops i j) →
  ∀i m j,(masks r acc)[i]? = some m→m.testBit j=true→Ahead ops i j:=by
 intro r
 induction r with
 | nil=>intro acc _ hacc;exact hacc
 | cons o r ih =>
  intro acc hr hacc
  have ho:ops[acc.length]? = some o:=by have:= hr 0;simpa using this.symm
  refine ih _ (fun j=>?_) (fun i m j hi hm=>?_)
  ·have:= hr (j+1)
   simp only[o9] at this
   rw[this]
   congr 1
   simp
   omega
  ·rcases iw i acc.length with hlt | hge
   ·rw[jm hlt] at hi
    exact hacc i m j hi hm
   ·rw[jh hge] at hi
    have he:i-acc.length=0:=by
     rcases l5 (i-acc.length) with h | h
     ·exact h
     ·rw[nu (by simp;omega)] at hi;simp at hi
    rw[he] at hi
    simp only[uh,bz] at hi
    subst hi
    have hi':i=acc.length:=by omega
    subst hi'
    exact qUy hacc ho _ (fun e he=>he) 0 (fun j hj=>by simp at hj) j hm
theorem xL{a b:List Nat}(h:meets a b=false):∀i∈a,i ∉ b:=by
 intro i hi hb
 have: meets a b=true:=by
  unfold meets
  rw[qh]
  exact⟨i,hi,by rw[qh];exact⟨i,hb,lg i⟩⟩
 rw[h] at this
 simp at this
theorem zAk{ops:Array Oper}:∀(r:List Oper) (n:Nat),(∀j,r[j]? = ops[n+j]?)→back r n=true→∀i o,n≤i→ops[i]? = some o→∀e∈o.after.toList,Region.binds .any e=true→e.on<i:=by
 intro r
 induction r with
 | nil =>
  intro n hr _ i o hni ho
  have:= hr (i-n)
  rw[show n+(i-n)=i by omega,ho] at this
  simp at this
 | cons o' r ih =>
  intro n hr h i o hni ho e he hb
  simp only[back,bn] at h
  rcases Nat.eq_or_lt_of_le hni with heq | hlt
  ·subst heq
   have h0:=hr 0
   simp only[uh,mo,ho,bz] at h0
   subst h0
   have:= fw.1 h.1 e he
   simpa [hb] using this
  ·exact ih (n+1) (fun j=>by have:= hr (j+1);simp only[o9] at this;rw[this];congr 1;omega) h.2 i o (by omega) ho e he hb
theorem RF.drew{N F:Nat→Prop}{φ:Phi}{s:FS reg.T}{a:Act}{w:World}(h:RF dl N F φ nt s a w):RF dl N F φ nt s a { w with drawn:=w.drawn+1 }:=by
 have hm:∀b,F b→F b∧({ w with drawn:=w.drawn+1 }:World).heap[b]? = w.heap[b]?:=fun b hb=>⟨hb,rfl⟩
 exact⟨fun t v hv=>⟨(h.env t v hv).1,(h.env t v hv).2.mono reg hm (fun _ _ e=>e)⟩,h.size,h.heap.drew rfl,h.dfs⟩
theorem Goes.drew{N F N' F':Nat→Prop}{φ φ':Phi}{H H':Nat→Option (O reg.T)}{w w':World}(h:Goes reg F φ N H { w with drawn:=w.drawn+1 } F' φ' N' H' w'):Goes reg F φ N H w F' φ' N' H' w' :=
 ⟨h.os,h.tape,h.output,h.size,h.block,h.fsub,h.fnew,h.phi,h.names,h.dom,h.new⟩
theorem Ch.any{r:Option Nat}{m:Nat}(hHd:bI P hd){ops:Array Oper}{Q:Exit→Act→World→Prop}(hback:∀i o,ops[i]? = some o→∀e∈o.after.toList,Region.binds .any e=true→e.on<i){lo up:Nat} :
  ∀(fuel:Nat) (l:List iZ) (s s':FS reg.T) (listed:Array Bool),Ch P hd nt ops l s s'→l.length≤fuel→listed.size=ops.size →
   (∀i,listed.getD i true=false↔i∈l.map (·.at_))→(l.map (·.at_)).Pairwise (·< ·) →
   (∀g∈l,∀f∈l,g.at_<f.at_→Ahead ops f.at_ g.at_∨Apart ops g f) →
   (∀i j,listed.getD i false=true→Ahead ops i j→listed.getD j false=true)→Rng l lo up →
   ∀{N F:Nat→Prop} {φ:Phi} {a:Act} {w:World},RF dl N F φ nt s a w→(∀f∈l,gM N f.n0 f.n1) →
   (∀N' F' φ' a' w',RF dl N' F' φ' nt s' a' w'→Goes reg F φ N s.H w F' φ' N' s'.H w'→(∀i,N' i→N i∨(lo≤i∧i<up))→Q .normal a' w')→wpAnyIn (Fr r) m P .any ops Q fuel listed a w:=by
 intro fuel
 induction fuel with
 | zero =>
  intro l s s' listed h hf hsz hl _ _ _ _ N F φ a w hR _ hQ
  have: l=[]:=List.length_eq_zero_iff.1 (by omega)
  subst this
  cases h
  refine⟨?_,hQ _ _ _ _ _ hR (Goes.refl reg hR.heap) (fun i hi=>.inl hi)⟩
  rw[List.eq_nil_iff_forall_not_mem]
  intro i hi
  have:= (hl i).1 (mem_ready.1 hi).1
  simp at this
 | succ fuel ih =>
  intro l s s' listed h hf hsz hl hsort hap hdown hrng N F φ a w hR hfr hQ
  have hiff:∀i,listed.getD i false=true↔(i<ops.size∧i ∉ l.map (·.at_)):=by
   intro i
   rcases iw i ops.size with hlt | hge
   ·have h1:=hl i
    simp only[fe,nk (show i<listed.size by omega),qj] at h1 ⊢
    constructor
    ·intro e;exact⟨hlt,fun hm=>by rw[h1.2 hm] at e;simp at e⟩
    ·rintro⟨_,hm⟩
     cases hb:listed[i]'(by omega) with
     | true=>rfl
     | false=>exact absurd (h1.1 hb) hm
   ·simp[Array.getElem?_eq_none (show listed.size≤i by omega)]
    omega
  refine⟨fun hnone=>?_,fun i hi=>?_⟩
  ·
   cases h with
   | nil=>exact hQ _ _ _ _ _ hR (Goes.refl reg hR.heap) (fun i hi=>.inl hi)
   | cons f l o _ s1 _ ho hs h =>
    exfalso
    have hr:f.at_∈Region.ready .any ops listed:=by
     rw[mem_ready]
     refine⟨(hl f.at_).2 (by simp),o,ho,fun e he hb=>?_⟩
     have hlt:=hback f.at_ o ho e (by simpa using he) hb
     have hfs:=(kg.1 ho).1
     rw[hiff]
     refine⟨by omega,fun hm=>?_⟩
     simp only[mg,fo] at hm
     rcases hm with hm | hm
     ·omega
     ·have:= (ja.1 (by simpa using hsort)).1 _ hm
      omega
    rw[hnone] at hr
    simp at hr
  ·obtain⟨hun,oi,hoi,hall⟩:=mem_ready.1 hi
   have him:=(hl i).1 hun
   obtain⟨f,hfl,hfi⟩:=ic.1 him
   obtain⟨l1,l2,rfl⟩:=List.append_of_mem hfl
   subst hfi
   have hsort':∀g∈l1,g.at_<f.at_:=by
    intro g hg
    rw[l8,ma] at hsort
    exact hsort.2.2 g.at_ (ic.2 ⟨g,hg,rfl⟩) f.at_ (by simp)
   have hnodup:∀g∈l1++l2,g.at_≠f.at_:=by
    intro g hg e
    rw[l8,mg,ma] at hsort
    rcases dz.1 hg with h1 | h1
    ·have:= hsort' g h1;omega
    ·have:= (ja.1 hsort.2.1).1 g.at_ (ic.2 ⟨g,h1,rfl⟩)
     omega
   have hfront:=h.front (l1:=l1) (l2:=l2) (f:=f) (fun g hg=>by
    rcases hap g (by simp[hg]) f (by simp) (hsort' g hg) with ha | ha
    ·exfalso
     have hlg:listed.getD g.at_ false=true:=by
      cases ha with
      | one _ _ o e ho he hb hj =>
       rw[hoi] at ho;cases ho
       rw[←hj]
       exact hall e (by simpa using he) hb
      | more _ _ o e ho he hb hj =>
       rw[hoi] at ho;cases ho
       exact hdown _ _ (hall e (by simpa using he) hb) hj
     have:= (hiff g.at_).1 hlg
     exact this.2 (ic.2 ⟨g,by simp[hg],rfl⟩)
    ·exact ha)
   obtain⟨o,s1,ho,hs,hrest⟩:=hfront
   have hother:∀g∈l1++l2,g.n1≤f.n0∨f.n1≤g.n0:=by
    have ho:=hrng.ord
    rw[ma] at ho
    obtain⟨_,h2,h3⟩:=ho
    intro g hg
    rcases dz.1 hg with h1 | h1
    ·exact h3 g h1 f (by simp)
    ·exact((ja.1 h2).1 g h1).symm
   have hrf:=hrng.in_ f (by simp)
   have hrng':Rng (l1++l2) lo up:=by
    refine⟨hrng.le,fun g hg=>hrng.in_ g (by simp at hg ⊢;rcases hg with h | h<;>simp[h]),?_⟩
    have ho:=hrng.ord
    rw[ma] at ho ⊢
    exact⟨ho.1,(ja.1 ho.2.1).2,fun x hx y hy=>ho.2.2 x hx y (gy _ hy)⟩
   refine hs.sound hHd ho hR (hfr f (by simp)) (fun N' F' φ' a' w' hR' hG' hN'=>?_)
   have hfs:=(kg.1 ho).1
   refine ih (l1++l2) s1 s' _ hrest (by simp at hf ⊢;omega) (by simpa using hsz) (fun j=>?_) ?_ ?_ ?_ hrng' hR' ?_ (fun N'' F'' φ'' a'' w'' hR'' hG'' hN''=>hQ _ _ _ _ _ hR'' (Goes.trans reg hG' hG'') (fun i hi=>?_))
   ·by_cases hj:j=f.at_
    ·subst hj
     have e:(listed.setIfInBounds f.at_ true).getD f.at_ true=true:=by
      simp only[fe,jr,if_true]
      split<;>rfl
     rw[e]
     simp only[Bool.true_eq_false,false_iff]
     intro hm
     obtain⟨g,hg,he⟩:=ic.1 hm
     exact hnodup g hg he
    ·rw[getD_set_ne true (Ne.symm hj),hl j]
     simp only[l8,mg,dz,fo]
     constructor
     ·rintro(h | h | h)
      ·exact .inl h
      ·exact absurd h hj
      ·exact .inr h
     ·rintro(h | h)
      ·exact .inl h
      ·exact .inr (.inr h)
   ·rw[l8,mg,ma] at hsort
    rw[l8,ma]
    exact⟨hsort.1,(ja.1 hsort.2.1).2,fun x hx y hy=>hsort.2.2 x hx y (gy _ hy)⟩
   ·intro g hg f' hf' hlt
    exact hap g (dz.2 ((dz.1 hg).imp id (gy _))) f' (dz.2 ((dz.1 hf').imp id (gy _))) hlt
   ·intro j k hj hjk
    by_cases hjf:j=f.at_
    ·subst hjf
     have hlk:listed.getD k false=true:=by
      cases hjk with
      | one _ _ o' e ho' he hb hj' =>
       rw[hoi] at ho';cases ho'
       rw[←hj']
       exact hall e (by simpa using he) hb
      | more _ _ o' e ho' he hb hj' =>
       rw[hoi] at ho';cases ho'
       exact hdown _ _ (hall e (by simpa using he) hb) hj'
     exact getD_set_true hlk
    ·rw[getD_set_ne false (Ne.symm hjf)] at hj
     exact getD_set_true (hdown j k hj hjk)
   ·intro g hg i hi1 hi2 hi3
    rcases hN' i hi3 with h | h
    ·exact hfr g (by simp at hg ⊢;rcases hg with h | h<;>simp[h]) i hi1 hi2 h
    ·rcases hother g hg with h4 | h4<;>omega
   ·rcases hN'' i hi with h | h
    ·rcases hN' i h with h | h
     ·exact .inl h
     ·exact .inr (by omega)
    ·exact .inr h
theorem qQ6{r:Option Nat}{m:Nat}(hm:P.follows .mixedOrders=true)(hHd:bI P hd)(hnt:nt≤1000000){id:Nat}{ops:Array Oper}{draw:Bool}{Q:St reg.T→Prop}{Qx:Exit→Act→World→Prop}{st:St reg.T}
  (h:(vQ P hd nt ops draw st).K Q) {N F:Nat→Prop} {φ:Phi} {a:Act} {w:World} (hR:RF dl N F φ nt ⟨st.env.get,st.hp.get⟩ a w) (hfr:∀st',Q st'→gM N st.hp.nx st'.hp.nx)
  (hQ:∀st' N' F' φ' a' w',Q st'→RF dl N' F' φ' nt ⟨st'.env.get,st'.hp.get⟩ a' w'→GO N F φ st.hp w N' F' φ' st'.hp w'→Qx .normal a' w'):(Code.region id ops draw).wpIn (Fr r) m P Qx a w:=by
 cases draw with
 | false =>
  refine wpIn_region ?_
  have:= qQ5 (r:=r) (m:=m) (n:=0) hHd hnt h (fun j=>by simp) hR hfr hQ
  rwa [←rf,ng] at this
 | true =>
  simp only[vQ] at h
  rw[Out.cO] at h
  obtain⟨l,st',hch,hq,hat,hgr,hrng⟩:=qFi hnt h (fun j=>by simp)
  rw[lv] at hq
  obtain⟨hok,hq⟩:=Out.dR.1 hq
  have hq:Q st':=hq
  have hok:qEY ops l.reverse=true:=hok
  have hat':l.map (·.at_)=List.range ops.size:=by rw[hat,ng,rf]
  unfold qEY at hok
  simp only[bn] at hok
  obtain⟨hb,hok⟩:=hok
  refine wpIn_region_any hm ?_
  have hbk:=zAk (ops:=ops) ops.toList 0 (fun j=>by simp) hb
  have hf0:=hfr st' hq
  refine Ch.any hHd (fun i o ho=>hbk i o (cz _) ho) ops.size l _ _ _ hch ?_ (by simp) (fun i=>?_) ?_ (fun g hg f hf hlt=>?_) (fun i j hi _=>?_) hrng hR.drew (fun f hf i hi1 hi2=>?_) (fun N' F' φ' a' w' hR' hG' hN'=>hQ _ _ _ _ _ _ hq hR' ⟨Goes.drew hG',hgr,hN'⟩)
  ·have:= congrArg List.length hat'
   simp at this
   omega
  ·rw[hat']
   simp only[List.mem_range,fe,Array.getElem?_replicate]
   by_cases hi:i<ops.size<;>simp[hi]
  ·rw[hat']
   exact List.pairwise_lt_range
  ·have h1:=fw.1 hok f (by simpa using hf)
   have h2:=fw.1 h1 g (by simpa using hg)
   have hblt:Nat.blt g.at_ f.at_=true:=by simpa using hlt
   simp only[hblt,j6,ou,ni] at h2
   rcases h2 with h2 | h2
   ·left
    cases hmk:(masks ops.toList [])[f.at_]? with
    | none=>simp[List.getD,hmk] at h2
    | some m =>
     simp only[List.getD,hmk,qj] at h2
     exact qUz (ops:=ops) ops.toList [] (fun j=>by simp) (fun i m j hi=>by simp at hi) _ m _ hmk h2
   ·right
    intro og of hog hof
    rw[hog,hof] at h2
    simp only[bn,iZ.apart,mq] at h2
    obtain⟨ha,⟨hb1,hb2⟩,hb3⟩:=h2
    refine⟨ha,fun i hi=>⟨xL hb1 i hi,xL hb2 i hi⟩,fun i hi=>⟨xL hb3 i hi,fun hi'=>xL hb2 i hi' hi⟩⟩
  ·simp only[fe,Array.getElem?_replicate] at hi
   split at hi<;>simp at hi
  ·have:= hrng.in_ f hf
   exact hf0 i (by omega) (by omega)
theorem qQ7(hm:P.follows .mixedOrders=true)(hHd:bI P hd)(hnt:nt≤1000000){id:Nat}{ops:Array Oper}{draw:Bool}{Q:St reg.T→Prop}{Qx:Exit→Act→World→Prop}{st:St reg.T}
  (h:(vQ P hd nt ops draw st).K Q) {N F:Nat→Prop} {φ:Phi} {a:Act} {w:World} (hR:RF dl N F φ nt ⟨st.env.get,st.hp.get⟩ a w) (hfr:∀st',Q st'→gM N st.hp.nx st'.hp.nx)
  (hQ:∀st' N' F' φ' a' w',Q st'→RF dl N' F' φ' nt ⟨st'.env.get,st'.hp.get⟩ a' w'→GO N F φ st.hp w N' F' φ' st'.hp w'→Qx .normal a' w'):(Code.region id ops draw).wp P Qx a w :=
 (wpIn_wide (n:=0)).1 (qQ6 (r:=none) hm hHd hnt h hR hfr hQ)
end
end Go.W
namespace Go.W
open Go Go.RowKit
section
variable {reg:Reg} {P:Program} {hd:Hd reg.T} {nt:Nat} {dl:List Deferred}
theorem qU0(hnt:nt≤1000000){ops:Array Oper}{draw:Bool}{st:St reg.T}{Q:St reg.T→Prop}(h:(vQ P hd nt ops draw st).K Q):(vQ P hd nt ops draw st).K fun st'=>Q st'∧st.hp.nx≤st'.hp.nx:=by
 cases draw with
 | false=>exact qJt h
 | true =>
  simp only[vQ] at h ⊢
  rw[Out.cO] at h ⊢
  obtain⟨r,h1,h2⟩:=(Out.fF _ _).1 h
  obtain⟨l,st',_,h3,_,h4,_⟩:=qFi (ops:=ops) hnt h1 (fun j=>by simp)
  refine(Out.fF _ _).2 ⟨r,h1,?_⟩
  obtain⟨h5,h6⟩:=Out.dR.1 h2
  refine Out.dR.2 ⟨h5,h6,?_⟩
  rw[←h3]
  exact h4.1
theorem qJu{body:St reg.T→Out (aQ×St reg.T)}(hb:∀(st:St reg.T) (Q:aQ×St reg.T→Prop),(body st).K Q→(body st).K fun r=>Q r∧st.hp.nx≤r.2.hp.nx) :
  ∀(n:Nat) {st:St reg.T} {Q:aQ×St reg.T→Prop},(qHE body n st).K Q→(qHE body n st).K fun r=>Q r∧st.hp.nx≤r.2.hp.nx:=by
 intro n
 induction n with
 | zero=>intro st Q h;exact h.elim
 | succ n ih =>
  intro st Q h
  simp only[qHE] at h ⊢
  rw[Out.cO] at h ⊢
  refine Out.eU (hb st _ h) (fun r ⟨h1,h2⟩=>?_)
  obtain⟨e,st'⟩:=r
  cases e with
  | normal=>exact Out.eU (ih h1) (fun r ⟨h3,h4⟩=>⟨h3,bq h2 h4⟩)
  | exit id=>exact⟨h1,h2⟩
  | ret=>exact⟨h1,h2⟩
theorem qXp(hnt:nt≤1000000){fuel:Nat}:∀(c:Code) (st:St reg.T) (Q:aQ×St reg.T→Prop),(ex P hd nt fuel c st).K Q→(ex P hd nt fuel c st).K fun r=>Q r∧st.hp.nx≤r.2.hp.nx:=by
 intro c
 induction c with
 | skip=>intro st Q h;exact⟨h,df _⟩
 | region id ops draw =>
  intro st Q h
  simp only[ex] at h ⊢
  rw[Out.cO] at h ⊢
  exact Out.eU (qU0 hnt h) (fun r ⟨h1,h2⟩=>⟨h1,h2⟩)
 | seq x y ihx ihy =>
  intro st Q h
  simp only[ex] at h ⊢
  rw[Out.cO] at h ⊢
  refine Out.eU (ihx st _ h) (fun r ⟨h1,h2⟩=>?_)
  obtain⟨e,st'⟩:=r
  cases e with
  | normal=>exact Out.eU (ihy st' _ h1) (fun r ⟨h3,h4⟩=>⟨h3,bq h2 h4⟩)
  | exit id=>exact⟨h1,h2⟩
  | ret=>exact⟨h1,h2⟩
 | cond o x y ihx ihy =>
  intro st Q h
  simp only[ex] at h ⊢
  split at h
  ·split at h
   ·rename_i v hv
    cases v with
    | true=>simp only[Out.K,branch,St.jJ hv] at h ⊢;exact ihx st _ h
    | false=>simp only[Out.K,branch,St.jJ hv] at h ⊢;exact ihy st _ h
   ·exact h.elim
  ·rename_i v
   cases v with
   | true=>exact ihx st _ h
   | false=>exact ihy st _ h
  ·exact h.elim
 | block id c ih =>
  intro st Q h
  simp only[ex] at h ⊢
  rw[Out.cO] at h ⊢
  refine Out.eU (ih st _ h) (fun r ⟨h1,h2⟩=>?_)
  obtain⟨e,st'⟩:=r
  cases e with
  | normal=>exact⟨h1,h2⟩
  | exit j =>
   simp only[qJj] at h1 ⊢
   cases hb:Nat.beq j id with
   | true=>rw[hb] at h1;exact⟨h1,h2⟩
   | false=>rw[hb] at h1;exact⟨h1,h2⟩
  | ret=>exact⟨h1,h2⟩
 | loop c ih=>intro st Q h;exact qJu ih fuel h
 | exit id=>intro st Q h;exact⟨h,df _⟩
 | ret=>intro st Q h;exact⟨h,df _⟩
 | rangeFunc f ps c1 c2 _ _=>intro st Q h;exact h.elim
 | scope c ih=>intro st Q h;exact ih st Q h
 | label l=>intro st Q h;exact⟨h,df _⟩
 | goto l=>intro st Q h;exact h.elim
 | refuse s=>intro st Q h;exact h.elim
abbrev RS(dl:List Deferred)(N F:Nat→Prop)(φ:Phi)(nt:Nat)(st:St reg.T)(a:Act)(w:World):Prop:=RF dl N F φ nt ⟨st.env.get,st.hp.get⟩ a w
def qGO(dl:List Deferred)(Q:aQ×St reg.T→Prop)(nt:Nat)(N F:Nat→Prop)(φ:Phi)(h:Hp reg.T)(w:World)(e:aQ)(a':Act)(w':World):Prop :=
 ∃st' N' F' φ',Q (e,st')∧RS dl N' F' φ' nt st' a' w'∧GO N F φ h w N' F' φ' st'.hp w'
def qDW(dl:List Deferred)(Q:aQ×St reg.T→Prop)(nt:Nat)(N F:Nat→Prop)(φ:Phi)(h:Hp reg.T)(w:World):Exit→Act→World→Prop
 | .normal,a',w'=>qGO dl Q nt N F φ h w .normal a' w'
 | .exit id,a',w'=>qGO dl Q nt N F φ h w (.exit id) a' w'
 | .ret,a',w'=>qGO dl Q nt N F φ h w .ret a' w'
 | _,_,_=>False
theorem qGO.from{Q:aQ×St reg.T→Prop}{N N' F F':Nat→Prop}{φ φ':Phi}{h h':Hp reg.T}{w w':World}{e:aQ}{a':Act}{w'':World}(g:GO N F φ h w N' F' φ' h' w')(c:qGO dl Q nt N' F' φ' h' w' e a' w''):qGO dl Q nt N F φ h w e a' w'':=by
 obtain⟨st',N'',F'',φ'',h1,h2,h3⟩:=c
 exact⟨st',N'',F'',φ'',h1,h2,g.trans h3⟩
theorem qDW.from{Q:aQ×St reg.T→Prop}{N N' F F':Nat→Prop}{φ φ':Phi}{h h':Hp reg.T}{w w':World}{e:Exit}{a':Act}{w'':World}(g:GO N F φ h w N' F' φ' h' w')(c:qDW dl Q nt N' F' φ' h' w' e a' w''):qDW dl Q nt N F φ h w e a' w'':=by
 cases e with
 | normal=>exact qGO.from g c
 | exit id=>exact qGO.from g c
 | ret=>exact qGO.from g c
 | goto l=>exact c.elim
 | panic ch=>exact c.elim
 | outgrown=>exact c.elim
theorem qAB{N N':Nat→Prop}{x y z:Nat}(hf:gM N x z)(hxy:x≤y)(hN:∀i,N' i→N i∨(x≤i∧i<y)):gM N' y z:=by
 intro i hi1 hi2 hi3
 rcases hN i hi3 with h | h
 ·exact hf i (bq hxy hi1) hi2 h
 ·omega
theorem qJv{N:Nat→Prop}{x y z:Nat}(hf:gM N x z)(hyz:y≤z):gM N x y:=fun i h1 h2=>hf i h1 (ig h2 hyz)
theorem oK{P:Program}{b:Frame}{a:Act}{k:List Item}{cs:List Frame}{w:World}{c:Code}:step P (lone (b.atR a (.code (.scope c)::k)) cs w)=.next (lone (b.atR a (.code c :: .inScope c::k)) cs w) :=
 step_lone_go (by simp[stepG,stepG.exec,Frame.atR])
theorem qLV{P:Program}{b:Frame}{a:Act}{k:List Item}{cs:List Frame}{w:World}{c:Code}:step P (lone (b.atR a (.inScope c::k)) cs w)=.next (lone (b.atR a k) cs w) :=
 step_lone_go (by simp[stepG,stepG.exec,Frame.atR])
theorem qDP{F:Fence}{n:Nat}{P:Program}{Q:Exit→Act→World→Prop}{a:Act}{w:World}{c:Code}(h:c.wpIn F n P (Exit.noGoto Q) a w):(Code.scope c).wpIn F n P Q a w:=by
 intro b k cs hro hb hr
 have h0:(lone (b.atR a (.code (.scope c)::k)) cs w).fenced P F:=fenced_calm hb hr rfl
 obtain⟨e,a₁,w₁,hq,harr⟩:=h b (.inScope c::k) cs hro hb hr
 cases e with
 | normal=>exact⟨.normal,a₁,w₁,hq,.head h0 oK (StepsIn.trans harr (.one (fenced_calm hb hr rfl) qLV))⟩
 | exit id =>
  have hx:exitTo id (.inScope c::k)=exitTo id k:=by simp[exitTo]
  exact⟨.exit id,a₁,w₁,hq,fun k' hk=>.head h0 oK (harr.1 k' (by rw[hx];exact hk)),
   fun hr' hk=>let ⟨k₁,h1,h2⟩:=harr.2 hr' (by rw[hx];exact hk);⟨k₁,h1,.head h0 oK h2⟩⟩
 | goto l=>exact hq.elim
 | ret=>exact⟨_,a₁,w₁,hq,.of_steps (.one h0 oK) harr⟩
 | panic ch=>exact⟨_,a₁,w₁,hq,.of_steps (.one h0 oK) harr⟩
 | outgrown=>exact⟨_,a₁,w₁,hq,.of_steps (.one h0 oK) harr⟩
def qU1(P:Program)(nt:Nat)(c:Code)(run:St reg.T→Out (aQ×St reg.T)):Prop :=
 ∀(st:St reg.T) (Q:aQ×St reg.T→Prop),(run st).K Q→∀{dl:List Deferred} {N F:Nat→Prop} {φ:Phi} {a:Act} {w:World},RS dl N F φ nt st a w→(∀r,Q r→gM N st.hp.nx r.2.hp.nx)→∀(r:Option Nat) (m:Nat),c.wpIn (Fr r) m P (qDW dl Q nt N F φ st.hp w) a w
theorem qU2{c:Code}{body:St reg.T→Out (aQ×St reg.T)}(hb:∀(st:St reg.T) (Q:aQ×St reg.T→Prop),(body st).K Q→(body st).K fun r=>Q r∧st.hp.nx≤r.2.hp.nx)
  (hc:qU1 P nt c body) (n:Nat):qU1 P nt (.loop c) (qHE body n):=by
 intro st Q h dl N F φ a w hR hfr ro m
 obtain⟨r,hr,hq⟩:=(Out.fF _ _).1 h
 have hf0:=hfr r hq
 refine wpIn_loop_ghost (fun n a' w'=>∃st' N' F' φ',(qHE body n st').K (·= r)∧RS dl N' F' φ' nt st' a' w'∧GO N F φ st.hp w N' F' φ' st'.hp w') n ⟨st,N,F,φ,hr,hR,GO.refl hR.heap⟩ ?_
 rintro n a' w' ⟨st',N',F',φ',h1,h2,h3⟩
 cases n with
 | zero=>exact h1.elim
 | succ n =>
  simp only[qHE] at h1
  rw[Out.cO] at h1
  obtain⟨⟨e,st2⟩,h4,h5⟩:=(Out.fF _ _).1 h1
  obtain⟨_,hx,hle⟩:=(Out.fF _ _).1 (hb _ _ h4)
  have hle2:st2.hp.nx≤r.2.hp.nx:=by
   cases e with
   | normal=>obtain⟨_,_,hx',hy'⟩:=(Out.fF _ _).1 (qJu hb n h5);exact hx'▸hy'
   | exit id=>have: (aQ.exit id,st2)=r:=h5;rw[←this];exact df _
   | ret=>have: (aQ.ret,st2)=r:=h5;rw[←this];exact df _
  have hf1:=qAB hf0 h3.grow.1 h3.names
  refine wpIn_mono (hc st' _ h4 h2 (by rintro r' rfl;exact qJv hf1 hle2) ro m) (fun e' a'' w'' he=>?_)
  cases e' with
  | normal =>
   obtain⟨st3,N3,F3,φ3,e3,h6,h7⟩:=he
   cases e3
   exact⟨n,jy _,st2,N3,F3,φ3,h5,h6,h3.trans h7⟩
  | exit id =>
   obtain⟨st3,N3,F3,φ3,e3,h6,h7⟩:=he
   cases e3
   have: (aQ.exit id,st2)=r:=h5
   exact⟨st2,N3,F3,φ3,this▸hq,h6,h3.trans h7⟩
  | ret =>
   obtain⟨st3,N3,F3,φ3,e3,h6,h7⟩:=he
   cases e3
   have: (aQ.ret,st2)=r:=h5
   exact⟨st2,N3,F3,φ3,this▸hq,h6,h3.trans h7⟩
  | goto l=>exact he.elim
  | panic ch=>exact he.elim
  | outgrown=>exact he.elim
theorem zOm(hm:P.follows .mixedOrders=true)(hHd:bI P hd)(hnt:nt≤1000000){fuel:Nat}:∀(c:Code),qU1 P nt c (ex P hd nt fuel c):=by
 intro c
 induction c with
 | skip=>intro st Q h dl N F φ a w hR hfr ro m;exact wpIn_skip ⟨st,N,F,φ,h,hR,GO.refl hR.heap⟩
 | region id ops draw =>
  intro st Q h dl N F φ a w hR hfr ro m
  simp only[ex] at h
  rw[Out.cO] at h
  exact qQ6 hm hHd hnt h hR (fun st' hq=>hfr _ hq) (fun st' N' F' φ' a' w' hq hR' hG'=>⟨st',N',F',φ',hq,hR',hG'⟩)
 | seq x y ihx ihy =>
  intro st Q h dl N F φ a w hR hfr ro m
  obtain⟨r,hr,hq⟩:=(Out.fF _ _).1 h
  have hf0:=hfr r hq
  simp only[ex] at hr
  rw[Out.cO] at hr
  obtain⟨⟨e,st2⟩,h4,h5⟩:=(Out.fF _ _).1 hr
  have hle2:st2.hp.nx≤r.2.hp.nx:=by
   cases e with
   | normal=>obtain⟨_,_,hx',hy'⟩:=(Out.fF _ _).1 (qXp hnt y st2 _ h5);exact hx'▸hy'
   | exit id=>have: (aQ.exit id,st2)=r:=h5;rw[←this];exact df _
   | ret=>have: (aQ.ret,st2)=r:=h5;rw[←this];exact df _
  refine wpIn_seq (wpIn_mono (ihx st _ h4 hR (by rintro r' rfl;exact qJv hf0 hle2) ro m) fun e' a' w' he=>?_)
  cases e' with
  | normal =>
   obtain⟨st3,N3,F3,φ3,e3,h6,h7⟩:=he
   cases e3
   have hf1:=qAB hf0 h7.grow.1 h7.names
   refine wpIn_mono (ihy st2 _ h5 h6 (by rintro r' rfl;exact hf1) ro m) (fun e'' a'' w'' he=>?_)
   refine qDW.from h7 ?_
   cases e'' with
   | normal=>obtain⟨st4,N4,F4,φ4,e4,h8,h9⟩:=he;exact⟨st4,N4,F4,φ4,e4▸hq,h8,h9⟩
   | exit id=>obtain⟨st4,N4,F4,φ4,e4,h8,h9⟩:=he;exact⟨st4,N4,F4,φ4,e4▸hq,h8,h9⟩
   | ret=>obtain⟨st4,N4,F4,φ4,e4,h8,h9⟩:=he;exact⟨st4,N4,F4,φ4,e4▸hq,h8,h9⟩
   | goto l=>exact he.elim
   | panic ch=>exact he.elim
   | outgrown=>exact he.elim
  | exit id =>
   obtain⟨st3,N3,F3,φ3,e3,h6,h7⟩:=he
   cases e3
   have: (aQ.exit id,st2)=r:=h5
   exact⟨st2,N3,F3,φ3,this▸hq,h6,h7⟩
  | ret =>
   obtain⟨st3,N3,F3,φ3,e3,h6,h7⟩:=he
   cases e3
   have: (aQ.ret,st2)=r:=h5
   exact⟨st2,N3,F3,φ3,this▸hq,h6,h7⟩
  | goto l=>exact he.elim
  | panic ch=>exact he.elim
  | outgrown=>exact he.elim
 | cond o x y ihx ihy =>
  intro st Q h dl N F φ a w hR hfr ro m
  simp only[ex] at h
  split at h
  ·rename_i t
   split at h
   ·rename_i v hv
    have he:a.eval (.tmp t)=.bool v:=(vF hR (x:=.tmp t) hv).kG
    cases v with
    | true=>simp only[Out.K,branch,St.jJ hv] at h;exact wpIn_cond_true he (ihx st Q h hR hfr ro m)
    | false=>simp only[Out.K,branch,St.jJ hv] at h;exact wpIn_cond_false he (ihy st Q h hR hfr ro m)
   ·exact h.elim
  ·rename_i v
   cases v with
   | true=>exact wpIn_cond_true (by rfl) (ihx st Q h hR hfr ro m)
   | false=>exact wpIn_cond_false (by rfl) (ihy st Q h hR hfr ro m)
  ·exact h.elim
 | block id c ih =>
  intro st Q h dl N F φ a w hR hfr ro m
  obtain⟨r,hr,hq⟩:=(Out.fF _ _).1 h
  have hf0:=hfr r hq
  simp only[ex] at hr
  rw[Out.cO] at hr
  obtain⟨⟨e,st2⟩,h4,h5⟩:=(Out.fF _ _).1 hr
  have h2:r.2=st2:=by
   cases e with
   | normal=>have: (aQ.normal,st2)=r:=h5;rw[←this]
   | exit j =>
    simp only[qJj] at h5
    cases hb:Nat.beq j id with
    | true=>rw[hb] at h5;have: (aQ.normal,st2)=r:=h5;rw[←this]
    | false=>rw[hb] at h5;have: (aQ.exit j,st2)=r:=h5;rw[←this]
   | ret=>have: (aQ.ret,st2)=r:=h5;rw[←this]
  refine wpIn_block (wpIn_mono (ih st _ h4 hR (by rintro r' rfl;rw[←h2];exact hf0) ro m) fun e' a' w' he=>?_)
  cases e' with
  | normal =>
   obtain⟨st3,N3,F3,φ3,e3,h6,h7⟩:=he
   cases e3
   have: (aQ.normal,st2)=r:=h5
   exact⟨st2,N3,F3,φ3,this▸hq,h6,h7⟩
  | exit j =>
   obtain⟨st3,N3,F3,φ3,e3,h6,h7⟩:=he
   cases e3
   simp only[qJj] at h5
   cases hb:Nat.beq j id with
   | true =>
    rw[hb] at h5
    have: j=id:=cu hb
    simp only[Exit.inBlock,this,if_true]
    have: (aQ.normal,st2)=r:=h5
    exact⟨st2,N3,F3,φ3,this▸hq,h6,h7⟩
   | false =>
    rw[hb] at h5
    have: j≠id:=fun e=>by subst e;simp[lg] at hb
    simp only[Exit.inBlock,this,if_false]
    have: (aQ.exit j,st2)=r:=h5
    exact⟨st2,N3,F3,φ3,this▸hq,h6,h7⟩
  | ret =>
   obtain⟨st3,N3,F3,φ3,e3,h6,h7⟩:=he
   cases e3
   have: (aQ.ret,st2)=r:=h5
   exact⟨st2,N3,F3,φ3,this▸hq,h6,h7⟩
  | goto l=>exact he.elim
  | panic ch=>exact he.elim
  | outgrown=>exact he.elim
 | exit id=>intro st Q h dl N F φ a w hR hfr ro m;exact wpIn_exit ⟨st,N,F,φ,h,hR,GO.refl hR.heap⟩
 | ret=>intro st Q h dl N F φ a w hR hfr ro m;exact wpIn_ret ⟨st,N,F,φ,h,hR,GO.refl hR.heap⟩
 | loop c ih=>exact qU2 (qXp hnt c) ih fuel
 | rangeFunc f ps c1 c2 _ _=>intro st Q h;exact h.elim
 | scope c ih=>intro st Q h dl N F φ a w hR hfr ro m;exact qDP (wpIn_mono (ih st Q h hR hfr ro m) (fun e' a' w' he=>by cases e'<;>first | exact he | exact he.elim))
 | label l=>intro st Q h dl N F φ a w hR hfr ro m;exact wpIn_label ⟨st,N,F,φ,h,hR,GO.refl hR.heap⟩
 | goto l=>intro st Q h;exact h.elim
 | refuse s=>intro st Q h;exact h.elim
theorem zDa(hm:P.follows .mixedOrders=true)(hHd:bI P hd)(hnt:nt≤1000000){fuel:Nat}(c:Code)(st:St reg.T)(Q:aQ×St reg.T→Prop)(h:(ex P hd nt fuel c st).K Q){N F:Nat→Prop}{φ:Phi}{a:Act}{w:World}(hR:RS dl N F φ nt st a w)(hfr:∀r,Q r→gM N st.hp.nx r.2.hp.nx):c.wp P (qDW dl Q nt N F φ st.hp w) a w :=
 (wpIn_wide (n:=0)).1 (zOm hm hHd hnt c st Q h hR hfr none 0)
def qEm(tmps:Array Value):ResultVar→Sem Value
 | .tmp t=>pure (tmps.getD t undef)
 | .cell a t=>do loadVar t (←asAddr (tmps.getD a undef))
theorem zAl{N F:Nat→Prop}{φ:Phi}{st:St reg.T}{a:Act}{w:World}(hR:RS dl N F φ nt st a w){r:ResultVar}{v:V reg.T}(h:qQm P st r=some v) :
  ∃cv,(qEm a.tmps r).run P w=.ok cv w∧aI reg F w φ v cv:=by
 cases r with
 | tmp t=>exact⟨_,rfl,(hR.env t v h).2⟩
 | cell t ty =>
  simp only[qQm] at h
  split at h
  ·rename_i i r o ht
   split at h
   ·rename_i ob hi
    split at h
    ·rename_i hc
     simp only[bn] at hc
     have hr:r<ob.len reg:=bu hc.2
     have hrel:=(hR.env t _ ht).2
     obtain⟨b,s,k,z,hp,he⟩:=hrel.qCQ
     have e:(qEm a.tmps (.cell t ty))=Instr.loadAt ty (.pointer (some ⟨b,s+r*k+o,none⟩)):=by
      simp only[qEm]
      rw[he]
      rfl
     rw[e]
     obtain⟨_,rfl,_,_,C,tt,fz,h1,_,h2,_⟩:=vU hR.heap hi hp hc.1
     have hlen:(((ob.row reg r).drop o).take (P.cellsOf ty)).length≤ob.k reg-o:=by have:= h2.at_.wid r hr;simp;omega
     obtain⟨cv,h3,h4⟩:=qGK (P:=P) (F:=F) (φ:=φ) h h1 (o:=s+r*ob.k reg+o) (fun j hj=>by
       have hjk:o+j<ob.k reg:=by omega
       have:= qXl hr hjk h2.size
       omega) (fun j hj=>by
       have hjk:o+j<ob.k reg:=by omega
       have:= h2.at_.rel r (o+j) hr hjk
       rw[show s+(r*ob.k reg+(o+j))=s+r*ob.k reg+o+j by omega] at this
       have e:(((ob.row reg r).drop o).take (P.cellsOf ty)).getD j .any=(ob.row reg r).getD (o+j) .any:=by
        simp only[ed,il] at hj
        simp only[List.getD,j5,jf]
        rw[if_pos (by omega)]
       rw[e];exact this)
     exact⟨cv,h4,h3⟩
    ·simp at h
   ·simp at h
  ·simp at h
theorem qU3{N F:Nat→Prop}{φ:Phi}{st:St reg.T}{a:Act}{w:World}(hR:RS dl N F φ nt st a w):∀(rs:List ResultVar) (vs:List (V reg.T)),fT (rs.map (qQm P st))=some vs →
  ∃cvs:List Value,(rs.mapM (qEm a.tmps)).run P w=.ok cvs w∧vs.length=cvs.length∧∀j,j<vs.length→aI reg F w φ (vs.getD j .any) (cvs.getD j undef):=by
 intro rs
 induction rs with
 | nil=>intro vs h;simp[fT] at h;subst h;exact⟨[],rfl,rfl,fun j hj=>by simp at hj⟩
 | cons r rs ih =>
  intro vs h
  simp only[mg] at h
  cases hr:qQm P st r with
  | none=>rw[hr] at h;simp[fT] at h
  | some v =>
   rw[hr] at h
   simp only[fT] at h
   cases hl:fT (rs.map (qQm P st)) with
   | none=>rw[hl] at h;simp at h
   | some us =>
    rw[hl] at h
    simp only[bz] at h
    subst h
    obtain⟨cv,h1,h2⟩:=zAl hR hr
    obtain⟨cvs,h3,h4,h5⟩:=ih us hl
    refine⟨cv::cvs,?_,by simp[h4],fun j hj=>?_⟩
    ·rw[wo,Sem.run_bind,h1]
     simp only[Result.andThen_ok,Sem.run_bind,h3]
     rfl
    ·cases j with
     | zero=>simpa using h2
     | succ j=>simpa using h5 j (by simpa using hj)
theorem qP{N F:Nat→Prop}{φ:Phi}{st:St reg.T}{a:Act}{w:World}(hR:RS dl N F φ nt st a w){fn:Func}{v:V reg.T}(h:qLS P fn st=some v) :
  ∃cv,(results fn a.tmps).run P w=.ok cv w∧aI reg F w φ v cv:=by
 have e:results fn a.tmps=(do let vs ←fn.results.mapM (qEm a.tmps);pure (if h:vs.size=1 then vs[0] else .tuple vs)):=by
  unfold results
  congr 1
 have all:∀us,fT (fn.results.toList.map (qQm P st))=some us→∃cvs:Array Value,(fn.results.mapM (qEm a.tmps)).run P w=.ok cvs w∧us.length=cvs.size ∧
   ∀j,j<us.length→aI reg F w φ (us.getD j .any) (cvs.getD j undef):=by
  intro us hus
  obtain⟨cvs,h1,h2,h3⟩:=qU3 hR fn.results.toList us hus
  refine⟨cvs.toArray,?_,by simpa using h2,fun j hj=>by simpa [fe,List.getD] using h3 j hj⟩
  rw[←ru (xs:=fn.results),List.mapM_toArray]
  show((List.toArray <$> fn.results.toList.mapM (qEm a.tmps):Sem (Array Value))).run P w=_
  rw[map_eq_pure_bind,Sem.run_bind,h1]
  rfl
 unfold qLS at h
 split at h
 ·rename_i r hr
  obtain⟨cvs,h1,h2,h3⟩:=all [v] (by rw[hr];simp[fT,h])
  refine⟨cvs.getD 0 undef,?_,by simpa using h3 0 (by simp)⟩
  rw[e,Sem.run_bind,h1]
  have hs:cvs.size=1:=by simpa using h2.symm
  simp[hs,Array.getD]
 ·rename_i hne
  split at h
  ·rename_i us hus
   simp only[bz] at h
   subst h
   obtain⟨cvs,h1,h2,h3⟩:=all us hus
   refine⟨.tuple cvs,?_,.tup us cvs h2 h3⟩
   rw[e,Sem.run_bind,h1]
   have hs:¬cvs.size=1:=by
    intro hs
    have hl:=congrArg List.length (qA8 hus)
    simp only[jc] at hl
    obtain⟨r,hr⟩:=List.length_eq_one_iff.1 (show fn.results.toList.length=1 by omega)
    exact hne r hr
   simp[hs]
  ·simp at h
theorem qHJ:∀(l:List (V reg.T)) (n:Nat) (t:Tr (V reg.T)),n+l.length≤1000000→∀j,(iN l n t).get j=if n≤j∧j<n+l.length then l[j-n]? else t.get j
 | [],n,t,_,j=>by simp[iN];omega
 | v::l,n,t,h,j=>by
  simp only[dw] at h
  rw[iN,qHJ l (n+1) _ (by omega) j,Tr.iD (by unfold Tr.ok;simp;omega)]
  by_cases h1:n=j
  ·subst h1;simp;omega
  ·by_cases h2:n+1≤j∧j<n+1+l.length
   ·have e:j-n=(j-(n+1))+1:=by omega
    rw[if_pos h2,if_pos (by simp only[dw];omega),e];simp
   ·rw[if_neg h2,if_neg (Ne.symm h1),if_neg (by simp only[dw];omega)]
theorem zI{N F:Nat→Prop}{φ:Phi}{h:Hp reg.T}{w:World}{args:List (V reg.T)}{cargs:Array Value}(hH:HR N F φ h w)(hl:jD F w φ args cargs)(hle:args.length≤nt)(hnt:nt≤1000000) :
  RS [] N F φ nt ⟨iN args 0 .e,h⟩ { tmps:=cargs++Array.replicate (nt-cargs.size) undef,defers:=[] } w:=by
 have hsz:=hl.1
 refine⟨fun t x hx=>?_,by simp;omega,hH,rfl⟩
 simp only[qHJ args 0 .e (by omega),Tr.qXc] at hx
 split at hx
 ·rename_i hlt
  have hlt:t<args.length:=by omega
  refine⟨by omega,?_⟩
  have h1:=hl.2 t hlt
  have e1:args.getD t .any=x:=by
   simp only[uj] at hx
   simp[List.getD,hx]
  rw[e1] at h1
  have e2:(cargs++Array.replicate (nt-cargs.size) undef).getD t undef=cargs.getD t undef:=by
   have: t<cargs.size:=by omega
   simp[fe,Array.getElem?_append,this]
  rw[e2]
  exact h1
 ·cases hx
theorem qHK(hm:P.follows .mixedOrders=true)(hHd:bI P hd)(hno:∀(f:FuncId) fn,P.funcs[f]? = some fn→fn.body.isNone=false→(fn.name == "runtime.NumGoroutine")=false)(fuel:Nat):bI P (qXh P hd fuel):=by
 intro f args h Q hq
 unfold qXh at hq
 split at hq
 ·exact hq.elim
 rename_i fn hfn
 split at hq
 ·exact hq.elim
 rename_i c hb
 obtain⟨hc,hq⟩:=Out.dR.1 hq
 simp only[bn] at hc
 have hle:args.length≤fn.ntmps:=by simpa using hc.1
 have hnt:fn.ntmps≤1000000:=bu hc.2
 rw[Out.cO] at hq
 have hbn:fn.body.isNone=false:=by rw[hb];rfl
 refine⟨⟨fn,hfn,hno f fn hfn hbn,hbn⟩,fun N F φ w cargs hfr hH hl=>?_⟩
 have hfin:∀r:aQ×St reg.T,(qH P fn r).K Q→∃v,qLS P fn r.2=some v∧Q (v,r.2.hp)∧∀id,r.1≠.exit id:=by
  intro r hr
  obtain⟨e,st⟩:=r
  cases e with
  | normal=>obtain⟨v,h1,h2⟩:=jC hr;exact⟨v,h1,h2,fun id=>by simp⟩
  | ret=>obtain⟨v,h1,h2⟩:=jC hr;exact⟨v,h1,h2,fun id=>by simp⟩
  | exit id=>exact hr.elim
 refine calls_of_wp hfn hb (wp_mono (zDa hm hHd hnt c _ _ hq (zI hH hl hle hnt) (fun r hr=>?_)) fun e a' w' he=>?_)
 ·obtain⟨v,_,h2,_⟩:=hfin r hr
  exact hfr _ h2
 ·have fin:∀e',qGO [] (fun r=>(qH P fn r).K Q) fn.ntmps N F φ h w e' a' w'→a'.defers=[]∧∃cv,(results fn a'.tmps).run P w' = .ok cv w'∧gN N F φ h w Q (.returned cv) w':=by
   rintro e' ⟨st',N',F',φ',h1,h2,h3⟩
   obtain⟨v,h4,h5,_⟩:=hfin _ h1
   obtain⟨cv,h6,h7⟩:=qP h2 h4
   exact⟨h2.dfs,cv,h6,cv,rfl,v,st'.hp,N',F',φ',h5,h7,h2.heap,h3⟩
  cases e with
  | normal=>exact fin _ he
  | ret=>exact fin _ he
  | exit id =>
   obtain⟨st',N',F',φ',h1,_⟩:=he
   obtain⟨_,_,_,h6⟩:=hfin _ h1
   exact(h6 id rfl).elim
  | goto l=>exact he.elim
  | panic ch=>exact he.elim
  | outgrown=>exact he.elim
def iH(P:Program)(C:Con reg.T):Prop:=∀f S,C f=some S→∀args h Q,(S args h).K Q→There P f∧∀N F φ w cargs,(∀r,Q r→gM N h.nx r.2.nx)→HR N F φ h w→jD F w φ args cargs→Calls P f cargs w (gN N F φ h w Q)
end
end Go.W
namespace Go.W
open Go Go.RowKit
section
variable {reg:Reg} (P:Program)
structure It(T:Nat→Type) where
 env:Tr (V T)
 hp:Hp T
 ys:List Nat
 out:List (List (V T))
def zLj(l:List Nat):Option Nat→List Nat
 | none=>l
 | some d=>l.filter fun t=>!Nat.beq t d
def V.bare{T:Nat→Type}:V T→Bool
 | .d (.bool _)=>true
 | .d (.int _ _)=>true
 | .d (.str _)=>true
 | .d .nilp=>true
 | .d .nilm=>true
 | .d .nilf=>true
 | .d .nili=>true
 | .d .nils=>true
 | .agg vs=>goL vs
 | _=>false
where goL {T:Nat→Type}:List (V T)→Bool
 | []=>true
 | v::vs=>V.bare v&&goL vs
def zID(ys:List Nat):Op→Option (Array Operand)
 | .call ⟨.value (.tmp t),args,_⟩=>(match kN ys t with | true=>some args | false=>none)
 | _=>none
def zIE(ys:List Nat)(dst:Option Nat):Op→Option Nat
 | .move (.tmp t)=>(match kN ys t with | true=>dst | false=>none)
 | _=>none
def qON(hd:Hd reg.T)(nt:Nat):List Oper→It reg.T→Out (It reg.T)
 | [],s=>.ret s
 | o::rest,s =>
  match mK nt o.dst&&o.guard.isNone with
  | false=>.bad
  | true =>
   match zIE s.ys o.dst o.op with
   | some d=>qON hd nt rest ⟨s.env.set d (some .any),s.hp,d::s.ys,s.out⟩
   | none =>
    match zID s.ys o.op with
    | some args =>
     (match fT (args.toList.map (valOf s.env.get)) with
     | some vs=>(match V.bare.goL vs with
      | true=>qON hd nt rest ⟨(St.put ⟨s.env,s.hp⟩ o.dst (.d (.bool true))).env,s.hp,zLj s.ys o.dst,s.out++[vs]⟩
      | false=>.bad)
     | none=>.bad)
    | none =>
     (iM P hd o.op (valOf s.env.get) s.hp).bind fun r=>Out.ask (Nat.ble s.hp.nx r.2.nx) (qON hd nt rest ⟨(St.put ⟨s.env,r.2⟩ o.dst r.1).env,r.2,zLj s.ys o.dst,s.out⟩)
def zOn{T:Nat→Type}(k:It T→Out (aQ×It T))(r:aQ×It T):Out (aQ×It T) :=
 match r.1 with
 | .normal=>k r.2
 | e=>.ret (e,r.2)
def zLV{T:Nat→Type}(id:Nat)(r:aQ×It T):Out (aQ×It T) :=
 match r.1 with
 | .exit j=>(match Nat.beq j id with | true=>.ret (.normal,r.2) | false=>.ret (.exit j,r.2))
 | e=>.ret (e,r.2)
def zLk{T:Nat→Type}(body:It T→Out (aQ×It T)):Nat→It T→Out (aQ×It T)
 | 0,_=>.bad
 | n+1,s=>(body s).bind fun r=>(match r.1 with | .normal=>zLk body n r.2 | e=>.ret (e,r.2))
def exY(hd:Hd reg.T)(nt fuel:Nat):Code→It reg.T→Out (aQ×It reg.T)
 | .skip,s=>.ret (.normal,s)
 | .region _ ops false,s=>(qON P hd nt ops.toList s).bind fun s=>.ret (.normal,s)
 | .seq a b,s=>(exY hd nt fuel a s).bind (zOn (exY hd nt fuel b))
 | .cond (.tmp t) a b,s=>(match s.env.get t with
   | some (.d (.bool v))=>(match v with | true=>exY hd nt fuel a s | false=>exY hd nt fuel b s)
   | _=>.bad)
 | .block id c,s=>(exY hd nt fuel c s).bind (zLV id)
 | .loop c,s=>zLk (exY hd nt fuel c) fuel s
 | .exit id,s=>.ret (.exit id,s)
 | .ret,s=>.ret (.ret,s)
 | _,_=>.bad
end
section
variable {reg:Reg}
theorem qI.later{F:Nat→Prop}{φ:Phi}{N:Nat→Prop}{H:Nat→Option (O reg.T)}{w w':World}(h:qI reg F φ N H w)(hs:w.heap.size≤w'.heap.size)(hb:∀b,F b∨fP reg φ H b→w'.heap[b]? = w.heap[b]?):qI reg F φ N H w':=by
 have hF:∀b,F b→F b∧w'.heap[b]? = w.heap[b]?:=fun b h1=>⟨h1,hb b (.inl h1)⟩
 exact⟨fun i o ho=>(h.obj i o ho).mono reg hF (fun _ _ hp=>hp) (fun hp=>hp) (fun b s k hp=>hb b (.inr ⟨i,o,s,k,ho,hp⟩)),
  fun i o b s k ho hp=>⟨(h.own i o b s k ho hp).1,ig (h.own i o b s k ho hp).2 hs⟩,h.inj,h.dom,h.lt,h.ok,fun b h1=>ig (h.frz b h1) hs,h.lay.mono reg hF⟩
end
section
variable {reg:Reg} {P:Program} {hd:Hd reg.T} {nt:Nat}
def zLl(items:List (List (V reg.T)))(z:Nat)(s:It reg.T):Prop:=(∃more,items=s.out++more)∧s.hp.nx≤z
def qB8(s s':It reg.T):Prop:=(∃l,s'.out=s.out++l)∧s.hp.nx≤s'.hp.nx
theorem qB8.refl(s:It reg.T):qB8 s s:=⟨⟨[],by simp⟩,df _⟩
theorem qB8.trans{a b c:It reg.T}(h:qB8 a b)(k:qB8 b c):qB8 a c:=by
 obtain⟨⟨l,hl⟩,h2⟩:=h
 obtain⟨⟨m,hm⟩,h3⟩:=k
 exact⟨⟨l++m,by rw[hm,hl,mi]⟩,bq h2 h3⟩
theorem qB8.front{items:List (List (V reg.T))}{z:Nat}{s s':It reg.T}(h:qB8 s s')(hf:zLl items z s'):zLl items z s:=by
 obtain⟨⟨l,hl⟩,h2⟩:=h
 obtain⟨⟨m,hm⟩,h3⟩:=hf
 exact⟨⟨l++m,by rw[hm,hl,mi]⟩,bq h2 h3⟩
end
end Go.W
namespace Go.W
open Go Go.RowKit
section
variable {T:Nat→Type}
def D.alike:D T→D T→Bool
 | .bool a,.bool b=>a==b
 | .int k a,.int k' b=>sameKind k k' && a==b
 | .str a,.str b=>a==b
 | .nilp,.nilp=>true
 | .nilm,.nilm=>true
 | .nilf,.nilf=>true
 | .nili,.nili=>true
 | .nils,.nils=>true
 | _,_=>false
def Cap.alike:Cap→Cap→Bool
 | .exact a,.exact b=>Nat.beq a b
 | .least a,.least b=>Nat.beq a b
 | _,_=>false
def V.alike:V T→V T→Bool
 | .d x,.d y=>x.alike y
 | .ptr i r o,.ptr j s p=>Nat.beq i j&&Nat.beq r s&&Nat.beq o p
 | .sl i off len cap,.sl j off' len' cap'=>Nat.beq i j&&Nat.beq off off' && Nat.beq len len' && cap.alike cap'
 | .mp i,.mp j=>Nat.beq i j
 | .it i,.it j=>Nat.beq i j
 | .fn f cs fs,.fn g ds gs=>Nat.beq f g&&goL cs ds&&goL fs gs
 | .agg vs,.agg us=>goL vs us
 | .tup vs,.tup us=>goL vs us
 | .undef,.undef=>true
 | _,_=>false
where goL:List (V T)→List (V T)→Bool
 | [],[]=>true
 | v::vs,u::us=>V.alike v u&&goL vs us
 | _,_=>false
def qM1:List (List (V T))→List (List (V T))→Bool
 | [],[]=>true
 | r::rs,q::qs=>V.alike.goL r q&&qM1 rs qs
 | _,_=>false
def qM2:List ((V T×V T)×Nat)→List ((V T×V T)×Nat)→Bool
 | [],[]=>true
 | a::as,b::bs=>V.alike a.1.1 b.1.1&&V.alike a.1.2 b.1.2&&Nat.beq a.2 b.2&&qM2 as bs
 | _,_=>false
def O.alike:O T→O T→Bool
 | .rows k xs,.rows k' ys=>Nat.beq k k' && qM1 xs ys
 | .map c es,.map c' es'=>Nat.beq c c' && qM2 es es'
 | _,_=>false
def zLm{α:Type}(f:α→α→Bool):Option α→Option α→Option α
 | some a,some b=>(match f a b with | true=>some a | false=>none)
 | _,_=>none
def Tr.meet{α:Type}(f:α→α→Bool):Tr α→Tr α→Tr α
 | .n l v r,.n l' v' r'=>.n (Tr.meet f l l') (zLm f v v') (Tr.meet f r r')
 | _,_=>.e
def zLW:aQ→aQ→Bool
 | .normal,.normal=>true
 | .ret,.ret=>true
 | .exit a,.exit b=>Nat.beq a b
 | _,_=>false
def zDb(b h1 h2:Hp T):List Nat:=h1.wr++(h2.wr++List.range' b.nx (Nat.max h1.nx h2.nx-b.nx))
def zIF(h1 h2:Hp T)(t:Tr (O T))(i:Nat):Tr (O T):=t.set i (zLm O.alike (h1.get i) (h2.get i))
def zOo(b h1 h2:Hp T):Hp T:=⟨(zDb b h1 h2).foldl (zIF h1 h2) b.h,Nat.max h1.nx h2.nx,h1.wr++h2.wr⟩
def zOp(b:Hp T)(r1 r2:aQ×St T):Out (aQ×St T) :=
 Out.ask (zLW r1.1 r2.1&&(zDb b r1.2.hp r2.2.hp).all Tr.ok) (.ret (r1.1,⟨Tr.meet V.alike r1.2.env r2.2.env,zOo b r1.2.hp r2.2.hp⟩))
def qXq{β:Type}(b:Hp T)(f:β→Out (aQ×St T)):List β→Out (aQ×St T)
 | []=>.bad
 | [e]=>f e
 | e::es=>(f e).bind fun r1=>(qXq b f es).bind fun r2=>zOp b r1 r2
structure Sub(r r':aQ×St T):Prop where
 ex:r.1=r'.1
 env:∀t v,r.2.env.get t=some v→r'.2.env.get t=some v
 hp:∀i o,r.2.hp.get i=some o→r'.2.hp.get i=some o
 nx:r'.2.hp.nx≤r.2.hp.nx
theorem Sub.refl(r:aQ×St T):Sub r r:=⟨rfl,fun _ _ h=>h,fun _ _ h=>h,df _⟩
theorem Sub.trans{a b c:aQ×St T}(h:Sub a b)(k:Sub b c):Sub a c:=⟨h.ex.trans k.ex,fun t v e=>k.env t v (h.env t v e),fun i o e=>k.hp i o (h.hp i o e),bq k.nx h.nx⟩
end
section
variable {reg:Reg} (P:Program)
structure Lf(T:Nat→Type) where
 i:Nat
 j:Nat
 since:Nat
 seen:List Nat
 c:Nat
 es:List ((V T×V T)×Nat)
def qM3:Code→Option Tmp
 | .seq a _=>qM3 a
 | .region _ ops false=>(match ops.toList with
  | o::_=>(match o.op,o.guard with | .next (.tmp t) false,none=>some t | _,_=>none)
  | []=>none)
 | _=>none
def zLn{T:Nat→Type}(st:St T)(t:Tmp):Option (Lf T):=match st.env.get t with
 | some (.it i)=>(match st.hp.get i with
  | some (.mit (some j) since seen last)=>(match st.hp.get j with
   | some (.map c es)=>(match zI6 es seen last&&(qXg es seen).all (fun e=>Nat.blt e.2 since) with
    | true=>some ⟨i,j,since,seen,c,qXg es seen⟩
    | false=>none)
   | _=>none)
  | _=>none)
 | _=>none
def zOq{T:Nat→Type}(h:Hp T)(lf:Lf T)(e:(V T×V T)×Nat):Hp T:=h.set lf.i (some (.mit (some lf.j) lf.since (lf.seen++[e.2]) lf.c))
def zPR{T:Nat→Type}(e:(V T×V T)×Nat):V T:=.tup [.d (.bool true),e.1.1,e.1.2]
def zLo(hd:Hd reg.T)(nt fuel:Nat)(v:V reg.T)(h':Hp reg.T):Code→St reg.T→Out (aQ×St reg.T)
 | .seq a b,st=>(zLo hd nt fuel v h' a st).bind (zCQ (ex P hd nt fuel b))
 | .region _ ops false,st=>(match ops.toList with
  | o::rest=>(match mK nt o.dst with
   | true=>(jK P hd nt ops rest (St.put ⟨st.env,h'⟩ o.dst v)).bind fun st=>.ret (.normal,st)
   | false=>.bad)
  | []=>.bad)
 | _,_=>.bad
def anew{T:Nat→Type}(st:St T):St T:=⟨st.env,⟨st.hp.h,st.hp.nx,[]⟩⟩
def zOr{T:Nat→Type}(wr:List Nat)(r:aQ×St T):aQ×St T:=(r.1,⟨r.2.env,⟨r.2.hp.h,r.2.hp.nx,r.2.hp.wr++wr⟩⟩)
def ended{T:Nat→Type}(r:aQ×St T):Out (aQ×St T):=match r.1 with | .normal=>.bad | e=>.ret (e,r.2)
def onM{T:Nat→Type}(k:St T→Out (aQ×St T))(r:aQ×St T):Out (aQ×St T):=match r.1 with | .normal=>k r.2 | e=>.ret (e,r.2)
def zLp(hd:Hd reg.T)(nt fuel:Nat)(c:Code)(t:Tmp):Nat→St reg.T→Out (aQ×St reg.T)
 | 0,_=>.bad
 | n+1,st=>(match zLn st t with
  | none=>.bad
  | some lf=>(match lf.es with
   | []=>(ex P hd nt fuel c st).bind ended
   | e::es=>(qXq (anew st).hp (fun e=>(zLo P hd nt fuel (zPR e) (zOq (anew st).hp lf e) c (anew st)).bind (onM (zLp hd nt fuel c t n))) (e::es)).bind fun r=>.ret (zOr st.hp.wr r)))
def zOs{T:Nat→Type}(st:St T)(c:Code):Option Tmp:=match qM3 c with
 | some t=>(match zLn st t with
  | some lf=>(match lf.es with | _::_::_=>some t | _=>none)
  | none=>none)
 | none=>none
def exL(hd:Hd reg.T)(nt fuel:Nat)(c:Code)(st:St reg.T):Out (aQ×St reg.T):=match c with
 | .loop c=>(match zOs st c with
  | some t=>zLp P hd nt fuel c t fuel st
  | none=>ex P hd nt fuel (.loop c) st)
 | c=>ex P hd nt fuel c st
end
section
variable {reg:Reg} {P:Program} {hd:Hd reg.T} {nt:Nat}
theorem mX.mem{F:Nat→Prop}{w:World}{φ:Phi}{es:List ((V reg.T×V reg.T)×Nat)}{cs:List MapEntry}(h:mX reg F w φ es cs){ce:MapEntry}(hc:ce∈cs):∃e∈es,aI reg F w φ e.1.1 ce.key∧aI reg F w φ e.1.2 ce.val∧ce.born=e.2:=by
 induction h with
 | nil=>cases hc
 | cons k v n c es cs hk hv hn _ ih =>
  rcases fo.1 hc with rfl | hc
  ·exact⟨((k,v),n),by simp,hk,hv,hn⟩
  ·obtain⟨e,h1,h2⟩:=ih hc
   exact⟨e,by simp[h1],h2⟩
theorem qDW.mono{dl:List Deferred}{Q Q':aQ×St reg.T→Prop}(hq:∀r,Q r→Q' r){N F:Nat→Prop}{φ:Phi}{h:Hp reg.T}{w:World}{e:Exit}{a':Act}{w':World}(hx:qDW dl Q nt N F φ h w e a' w'):qDW dl Q' nt N F φ h w e a' w':=by
 have key:∀e',qGO dl Q nt N F φ h w e' a' w'→qGO dl Q' nt N F φ h w e' a' w':=by
  rintro e' ⟨st',N',F',φ',h1,h2⟩
  exact⟨st',N',F',φ',hq _ h1,h2⟩
 cases e with
 | normal=>exact key _ hx
 | exit id=>exact key _ hx
 | ret=>exact key _ hx
 | goto l=>exact hx.elim
 | panic ch=>exact hx.elim
 | outgrown=>exact hx.elim
end
end Go.W
namespace Go.W
open Go Go.RowKit
section
variable {reg:Reg} (P:Program)
def zOt{T:Nat→Type}:List Nat→List (V T)→Tr (V T)→Tr (V T)
 | p::ps,x::xs,env=>zOt ps xs (env.set p (some x))
 | _,_,env=>env
def qXr{T:Nat→Type}(h:Hp T)(l:List Nat):Hp T:=⟨l.foldl (fun t i=>t.set i none) h.h,h.nx,l++h.wr⟩
def V.elder{T:Nat→Type}(n:Nat):V T→Bool
 | .ptr i _ _=>Nat.blt i n
 | .sl i _ _ _=>Nat.blt i n
 | .mp i=>Nat.blt i n
 | .it i=>Nat.blt i n
 | .fn _ vs us=>goL n vs&&goL n us
 | .ifc _ v=>V.elder n v
 | .agg vs=>goL n vs
 | .tup vs=>goL n vs
 | _=>true
where goL {T:Nat→Type} (n:Nat):List (V T)→Bool
 | []=>true
 | v::vs=>V.elder n v&&goL n vs
def O.elder{T:Nat→Type}(n:Nat):O T→Bool
 | .rows _ xs=>xs.all fun r=>V.elder.goL n r
 | .trows _ _=>true
 | .map _ es=>es.all fun e=>V.elder n e.1.1&&V.elder n e.1.2
 | .sit _ _=>true
 | .mit m _ _ _=>(match m with | some i=>Nat.blt i n | none=>true)
def zPS{T:Nat→Type}(hp:Hp T)(n0 i:Nat):Option (O T):=match hp.get i with
 | some o=>(match o.elder n0 with | true=>some o | false=>none)
 | none=>none
def zIG{T:Nat→Type}(hp:Hp T)(n0:Nat)(t:Tr (O T))(i:Nat):Tr (O T):=match zPS hp n0 i with
 | some o=>t.set i (some o)
 | none=>t
def zOu{T:Nat→Type}(h hp:Hp T)(l:List Nat)(n0:Nat):Hp T :=
 ⟨l.foldl (zIG hp n0) h.h,Nat.max h.nx hp.nx,l++h.wr⟩
def qXs{T:Nat→Type}(run:Code→St T→Out (aQ×St T))(ps:List Nat)(assign body:Code)(env:Tr (V T)):List (List (V T))→Hp T→Out (Hp T)
 | [],h=>.ret h
 | x::xs,h=>(run assign ⟨zOt ps x env,h⟩).bind fun r=>match r.1 with
  | .normal=>(run body r.2).bind fun r2=>(match r2.1 with | .normal=>qXs run ps assign body env xs r2.2.hp | _=>.bad)
  | _=>.bad
def zLX:aQ→Bool
 | .exit _=>false
 | _=>true
def zLY{T:Nat→Type}(fn:Func)(cs:List (V T))(l:List Nat)(n0:Nat)(ps:List Nat)(nt:Nat)(e:aQ)(out:List (List (V T))):Bool :=
 fn.results.toList.isEmpty&&Nat.ble (cs.length+1) fn.ntmps&&Nat.ble fn.ntmps 1000000&&l.all Tr.ok&&zLX e&&out.all (fun x=>Nat.beq x.length ps.length)&&ps.all (fun p=>Nat.blt p nt)&&l.all (fun i=>Nat.blt i n0)
def zLZ(hd:Hd reg.T)(nt fuel:Nat)(g:Operand)(ps:List Nat)(assign body:Code)(st:St reg.T):Out (aQ×St reg.T) :=
 match valOf st.env.get g with
 | some (.fn f cs [])=>(match P.funcs[f]? with
  | some fn=>(match fn.body with
   | some c =>
    let l:=reach st.hp.get 1000 0 (V.names.goL cs [])
    (exY P hd fn.ntmps fuel c ⟨iN (.any::cs) 0 .e,kX st.hp.get st.hp.nx l,[0],[]⟩).bind fun r =>
     Out.ask (zLY fn cs l st.hp.nx ps nt r.1 r.2.out) ((qXs (ex P hd nt fuel) ps assign body st.env r.2.out (qXr st.hp l)).bind fun h=>.ret (.normal,⟨st.env,zOu h r.2.hp l st.hp.nx⟩))
   | none=>.bad)
  | none=>.bad)
 | _=>.bad
def exI(hd:Hd reg.T)(nt fuel:Nat):Code→St reg.T→Out (aQ×St reg.T)
 | .seq a b,st=>(exI hd nt fuel a st).bind (zCQ (exI hd nt fuel b))
 | .block id c,st=>(exI hd nt fuel c st).bind (qJj id)
 | .rangeFunc g ps a b,st=>zLZ P hd nt fuel g ps.toList a b st
 | c,st=>exL P hd nt fuel c st
end
section
variable {reg:Reg} {P:Program} {hd:Hd reg.T} {nt:Nat}
theorem qM4{h:Hp reg.T}{l:List Nat}(hl:∀i∈l,Tr.ok i=true)(j:Nat):(qXr h l).get j=if j∈l then none else h.get j:=by
 have key:∀(l:List Nat) (t:Tr (O reg.T)),(∀i∈l,Tr.ok i=true)→(l.foldl (fun t i=>t.set i none) t).get j=if j∈l then none else t.get j:=by
  intro l
  induction l with
  | nil=>intro t _;simp
  | cons i l ih =>
   intro t hk
   rw[lu,ih _ (fun i hi=>hk i (by simp[hi])),Tr.iD (hk i (by simp))]
   by_cases h1:j∈l
   ·simp[h1]
   ·by_cases h2:j=i
    ·simp[h2]
    ·simp[h1,h2]
 exact key l h.h hl
theorem GO.hide{N F:Nat→Prop}{φ:Phi}{h:Hp reg.T}{w:World}{l:List Nat}(hH:HR N F φ h w)(hl:∀i∈l,Tr.ok i=true):GO N F φ h w N F φ (qXr h l) w:=by
 have sub:∀b,fP reg φ (qXr h l).get b→fP reg φ h.get b:=by
  rintro b ⟨i,o,s,k,h1,h2⟩
  rw[qM4 hl] at h1
  split at h1
  ·cases h1
  ·exact⟨i,o,s,k,h1,h2⟩
 refine⟨⟨rfl,rfl,rfl,df _,fun _ _ _=>rfl,fun _ h=>h,fun _ h=>.inl h,fun _ _=>rfl,fun _ h=>h,fun b hb=>.inl (sub b hb),fun i p hp=>.inl (hH.dom i p hp)⟩,⟨df _,l,rfl,fun i hn _=>?_⟩,fun i hi=>.inl hi⟩
 rw[qM4 hl,if_neg hn]
theorem GO.other{N F N' F':Nat→Prop}{φ φ':Phi}{h h':Hp reg.T}{w W W':World}(g:GO N F φ h w N' F' φ' h' W)(hs:W.heap.size≤W'.heap.size)(hb:∀b,b<w.heap.size→¬fP reg φ h.get b→W'.heap[b]? = W.heap[b]?)
  (h1:W'.os=W.os) (h2:W'.tape=W.tape) (h3:W'.output=W.output):GO N F φ h w N' F' φ' h' W' :=
 ⟨⟨h1.trans g.goes.os,h2.trans g.goes.tape,h3.trans g.goes.output,bq g.goes.size hs,fun b hb1 hb2=>(hb b hb1 hb2).trans (g.goes.block b hb1 hb2),g.goes.fsub,g.goes.fnew,g.goes.phi,g.goes.names,g.goes.dom,g.goes.new⟩,g.grow,g.names⟩
theorem RF.later{dl:List Deferred}{N F:Nat→Prop}{φ:Phi}{s:FS reg.T}{a:Act}{w w':World}(h:RF dl N F φ nt s a w)(hs:w.heap.size≤w'.heap.size)(hb:∀b,F b∨fP reg φ s.H b→w'.heap[b]? = w.heap[b]?):RF dl N F φ nt s a w' :=
 ⟨fun t v hv=>⟨(h.env t v hv).1,(h.env t v hv).2.mono reg (fun b hf=>⟨hf,hb b (.inl hf)⟩) (fun _ _ hp=>hp)⟩,h.size,h.heap.later hs hb,h.dfs⟩
theorem qXt{W:World}{b:Nat}{o:Obj}(h:W.heap[b]? = some o):b<W.heap.size:=(kg.1 h).1
def Mk(φ:Phi)(H:Nat→Option (O reg.T))(F:Nat→Prop)(B:Nat)(w:World)(ml:List Deferred):Prop :=
 ml.Nodup∧∀d∈ml,∃D:Nat,d = { target:=.collected D,args:=#[] }∧B≤D∧w.heap[D]? = some (.deferred (some []))∧¬F D∧¬fP reg φ H D
def qJw(dl:List Deferred)(Q:aQ×St reg.T→Prop)(nt:Nat)(N F:Nat→Prop)(φ:Phi)(h:Hp reg.T)(w:World)(e:aQ)(a':Act)(w':World):Prop :=
 ∃st' N' F' φ' ml,Q (e,st')∧RS (ml++dl) N' F' φ' nt st' a' w'∧GO N F φ h w N' F' φ' st'.hp w'∧Mk φ' st'.hp.get F' w.heap.size w' ml
def zLq(dl:List Deferred)(Q:aQ×St reg.T→Prop)(nt:Nat)(N F:Nat→Prop)(φ:Phi)(h:Hp reg.T)(w:World):Exit→Act→World→Prop
 | .normal,a',w'=>qJw dl Q nt N F φ h w .normal a' w'
 | .exit id,a',w'=>qJw dl Q nt N F φ h w (.exit id) a' w'
 | .ret,a',w'=>qJw dl Q nt N F φ h w .ret a' w'
 | _,_,_=>False
theorem zLq.of{dl:List Deferred}{Q:aQ×St reg.T→Prop}{N F:Nat→Prop}{φ:Phi}{h:Hp reg.T}{w:World}{e:Exit}{a':Act}{w':World}(hx:qDW dl Q nt N F φ h w e a' w'):zLq dl Q nt N F φ h w e a' w':=by
 have key:∀e',qGO dl Q nt N F φ h w e' a' w'→qJw dl Q nt N F φ h w e' a' w':=by
  rintro e' ⟨st',N',F',φ',h1,h2,h3⟩
  exact⟨st',N',F',φ',[],h1,h2,h3,List.nodup_nil,fun d hd=>by cases hd⟩
 cases e with
 | normal=>exact key _ hx
 | exit id=>exact key _ hx
 | ret=>exact key _ hx
 | goto l=>exact hx.elim
 | panic ch=>exact hx.elim
 | outgrown=>exact hx.elim
theorem qJw.from{dl ml:List Deferred}{Q:aQ×St reg.T→Prop}{N N' F F':Nat→Prop}{φ φ':Phi}{h h':Hp reg.T}{w w':World}{e:aQ}{a':Act}{w'':World}(g:GO N F φ h w N' F' φ' h' w')(hm:Mk φ' h'.get F' w.heap.size w' ml)
  (c:qJw (ml++dl) Q nt N' F' φ' h' w' e a' w''):qJw dl Q nt N F φ h w e a' w'':=by
 obtain⟨st',N'',F'',φ'',ml',h1,h2,h3,h4⟩:=c
 refine⟨st',N'',F'',φ'',ml' ++ ml,h1,by rw[mi];exact h2,g.trans h3,List.nodup_append.2 ⟨h4.1,hm.1,fun d hd d' hd' e=>?_⟩,fun d hd=>?_⟩
 ·subst e
  obtain⟨D,e1,e2,_⟩:=h4.2 d hd
  obtain⟨D',e1',_,e3',_⟩:=hm.2 d hd'
  have:= qXt e3'
  rw[e1] at e1'
  simp at e1'
  omega
 ·rcases dz.1 hd with hd | hd
  ·obtain⟨D,e1,e2,e3⟩:=h4.2 d hd
   exact⟨D,e1,bq g.goes.size e2,e3⟩
  ·obtain⟨D,e1,e2,e3,e4,e5⟩:=hm.2 d hd
   have hlt:=qXt e3
   refine⟨D,e1,e2,(h3.goes.block D hlt e5).trans e3,fun hf=>?_,fun ho=>?_⟩
   ·rcases h3.goes.fnew D hf with h | h | h
    ·exact e4 h
    ·omega
    ·exact e5 h
   ·rcases h3.goes.dom D ho with h | h
    ·exact e5 h
    ·omega
theorem qQ{n:Nat}:∀{vs:List (V reg.T)},V.elder.goL n vs=true→∀j,(vs.getD j .any).elder n=true
 | [],_,j=>rfl
 | v::vs,h,j=>by
  simp only[V.elder.goL,bn] at h
  cases j with
  | zero=>exact h.1
  | succ j=>exact qQ h.2 j
theorem qCS{n:Nat}{F F2:Nat→Prop}{W:World}{φ φ':Phi}{v:V reg.T}{cv:Value}(h:aI reg F W φ v cv)(hb:v.elder n=true)(hF:∀b,F b→F2 b)(hφ:∀i p,i<n→φ i=some p→φ' i=some p):aI reg F2 W φ' v cv:=by
 have lt:∀{i},Nat.blt i n=true→i<n:=fun h=>bu h
 induction h with
 | d x v hd=>exact .d x v (hd.mono reg (fun b hb=>⟨hF b hb,rfl⟩))
 | ptr i r o b s k z hp=>exact .ptr _ r o b s k z (hφ _ _ (lt hb) hp)
 | fp row o a C t fz hFa hb' hz hr=>exact .fp row o a C t fz (hF _ hFa) hb' hz (fun j hj=>(hr j hj).mono reg (fun b hb=>⟨hF b hb,rfl⟩))
 | sl j off len cap b s k z cap' hp hc hl hm' hz=>exact .sl _ off len cap b s k z cap' (hφ _ _ (lt hb) hp) hc hl hm' hz
 | slz j off cap base hc hb'=>exact .slz _ off cap base hc hb'
 | mp i b s hp=>exact .mp _ b s (hφ _ _ (lt hb) hp)
 | it i b s hp=>exact .it _ b s (hφ _ _ (lt hb) hp)
 | fn f caps fst cs fs hz _ hz' _ ih ih' =>
  simp only[V.elder,bn] at hb
  exact .fn f _ _ cs fs hz (fun j hj=>ih j hj (qQ hb.1 j)) hz' (fun j hj=>ih' j hj (qQ hb.2 j))
 | agg vs cs hz _ ih=>exact .agg _ cs hz (fun j hj=>ih j hj (qQ hb j))
 | tup vs cs hz _ ih=>exact .tup _ cs hz (fun j hj=>ih j hj (qQ hb j))
 | ifc t v cv _ ih=>exact .ifc t _ cv (ih hb)
 | undef=>exact .undef
 | any v=>exact .any v
theorem qU4{n:Nat}{F F2:Nat→Prop}{W:World}{φ φ':Phi}(hF:∀b,F b→F2 b)(hφ:∀i p,i<n→φ i=some p→φ' i=some p){es:List ((V reg.T×V reg.T)×Nat)}{cs:List MapEntry}(h:mX reg F W φ es cs)(hb:(es.all fun e=>V.elder n e.1.1&&V.elder n e.1.2)=true):mX reg F2 W φ' es cs:=by
 induction h with
 | nil=>exact .nil
 | cons k v m c es cs hk hv hn _ ih =>
  simp only[u7,bn] at hb
  exact .cons k v m c es cs (qCS hk hb.1.1 hF hφ) (qCS hv hb.1.2 hF hφ) hn (ih (by simpa using hb.2))
theorem qJx{n i:Nat}{F F2:Nat→Prop}{W:World}{φ φ':Phi}{o:O reg.T}(h:kE reg F W φ i o)(hb:o.elder n=true)(hi:i<n)(hF:∀b,F b→F2 b)(hφ:∀i p,i<n→φ i=some p→φ' i=some p)(hn:∀i,i<n→φ i=none→φ' i=none):kE reg F2 W φ' i o:=by
 have rows:o.dQ reg=true→(∀r c,(((o.row reg r).getD c .any)).elder n=true)→kE reg F2 W φ' i o:=by
  intro h0 hbl
  obtain⟨_,hr⟩:=h.rows reg h0
  refine .inl ⟨h0,?_⟩
  rcases hr with⟨h1,h2⟩ | ⟨b,s,C,t,fz,h1,h2,h3,h4⟩
  ·exact .inl ⟨h1,hn i hi h2⟩
  ·exact .inr ⟨b,s,C,t,fz,hφ i _ hi h1,h2,h3,⟨h4.size,h4.len,⟨h4.at_.wid,h4.at_.bR,fun r c hr hc=>qCS (h4.at_.rel r c hr hc) (hbl r c) hF hφ⟩⟩⟩
 cases o with
 | rows k xs =>
  refine rows rfl (fun r c=>?_)
  simp only[O.row]
  refine qQ ?_ c
  simp only[O.elder] at hb
  rcases iw r xs.length with hr | hr
  ·have:= fw.1 hb (xs.getD r []) (by rw[rz,j3 hr];exact nz hr)
   exact this
  ·rw[rz,nu hr];rfl
 | trows e xs =>
  refine rows rfl (fun r c=>?_)
  simp only[O.row]
  rw[rz,qa]
  cases (reg.enc e (xs.getD r (reg.dflt e)))[c]?<;>rfl
 | map c es =>
  obtain⟨b,ces,h1,h2,h3⟩:=h.map reg
  exact .inr (.inl ⟨c,es,b,ces,rfl,hφ i _ hi h1,h2,qU4 hF hφ h3 hb⟩)
 | sit s p =>
  obtain⟨b,h1,h2⟩:=h.sit reg
  exact .inr (.inr (.inl ⟨s,p,b,rfl,hφ i _ hi h1,h2⟩))
 | mit m since seen last =>
  obtain⟨b,mb,h1,h2,h3⟩:=h.mit reg
  refine .inr (.inr (.inr ⟨m,since,seen,last,b,mb,rfl,hφ i _ hi h1,h2,?_⟩))
  cases m with
  | none=>exact h3
  | some j=>obtain⟨c,s,e1,e2⟩:=h3;exact⟨c,s,hφ _ _ (bu hb) e1,e2⟩
end
end Go.W
