/- Part of the proof: texts Vc. No conditions. -/
import Derived.Test.YtclpnndkhbnaoaaGreatDoorVb
import Derived.Orders
import Derived.Sort.LoopGhostIn
import Derived.Scope
import Derived.RangeFuncSeq
import Derived.RangeFuncLeaves
set_option linter.all false
namespace Go.W
open Go Go.RowKit
section
variable {reg:Reg} {P:Program}
theorem qEg{hd:Hd reg.T}{op:Op}{val val':Operand→Option (V reg.T)}{h:Hp reg.T}(hv:∀x∈op.operands,val x=val' x):dO P hd op val h=dO P hd op val' h:=by
 cases op<;>(try rfl)<;>simp only[Op.operands,Call.operands] at hv<;>simp only[dO]
 case move x=>rw[hv x (by simp)]
 case assign x=>rw[hv x (by simp)]
 case pick c x y=>rw[hv x (by simp),hv y (by simp),hv c (by simp)]
 case box e x=>rw[hv x (by simp)]
 case fieldAddr s x f=>rw[hv x (by simp)]
 case load t x=>rw[hv x (by simp)]
 case store t x y=>rw[hv x (by simp),hv y (by simp)]
 case nilCheck x=>rw[hv x (by simp)]
 case binOp op t x y yt=>rw[hv x (by simp),hv y (by simp)]
 case unOp u t x=>rw[hv x (by simp)]
 case build t parts =>
  have e:(parts.toList.map fun p=>(p.1,val p.2))=parts.toList.map fun p=>(p.1,val' p.2) :=
   mo fun p hp=>by rw[hv p.2 (by simp;exact⟨p.1,by simpa using hp⟩)]
  rw[e]
 case buildSlice t len parts =>
  have e:(parts.toList.map fun p=>(p.1,val p.2))=parts.toList.map fun p=>(p.1,val' p.2) :=
   mo fun p hp=>by rw[hv p.2 (by simp;exact⟨p.1,by simpa using hp⟩)]
  rw[e]
 case makeSlice t l c=>rw[hv l (by simp),hv c (by simp)]
 case slice t x lo hi mx =>
  have e:∀y:Option Operand,(∀z,y=some z→val z=val' z)→y.map val=y.map val':=by
   intro y hy
   cases y with
   | none=>rfl
   | some z=>simp[hy z rfl]
  rw[hv x (by simp),e lo (fun z hz=>hv z (by subst hz;simp)),e hi (fun z hz=>hv z (by subst hz;simp)),e mx (fun z hz=>hv z (by subst hz;simp))]
 case indexAddr t x i=>rw[hv x (by simp),hv i (by simp)]
 case index t x i=>rw[hv x (by simp),hv i (by simp)]
 case field t x f=>rw[hv x (by simp)]
 case convert s d x=>rw[hv x (by simp)]
 case extract x n=>rw[hv x (by simp)]
 case makeMap t r =>
  cases r with
  | none=>rfl
  | some o=>simp only[hv o (by simp)]
 case lookup t x k ok=>rw[hv x (by simp),hv k (by simp)]
 case range t x=>rw[hv x (by simp)]
 case next x b=>rw[hv x (by simp)]
 case entry x=>rw[hv x (by simp)]
 case mapUpdate t m k x=>rw[hv m (by simp),hv k (by simp),hv x (by simp)]
 case insert t m k x=>rw[hv m (by simp),hv k (by simp),hv x (by simp)]
 case mapEntry t m k=>rw[hv m (by simp),hv k (by simp)]
 case entryStore t m n x=>rw[hv m (by simp),hv n (by simp),hv x (by simp)]
 case makeFunc fn first caps =>
  cases fn<;>(try rfl)
  simp only[]
  rw[mo (f:=val) (g:=val') (l:=first.toList) (fun x hx=>hv x (by simp;exact .inl (by simpa using hx))),
   mo (f:=val) (g:=val') (l:=caps.toList) (fun x hx=>hv x (by simp;exact .inr (by simpa using hx)))]
 case call c =>
  obtain⟨callee,cargs,cts⟩:=c
  have e1:cargs.toList.map val=cargs.toList.map val':=mo fun x hx=>hv x (by simp;exact .inr (by simpa using hx))
  simp only[e1]
  cases callee<;>(try rfl)
  rename_i f
  have: val f=val' f:=hv f (by simp)
  simp only[this]
theorem nR{α β:Type}{f g:α→Option β}:∀{l:List α},(∀x∈l,f x=g x)→l.filterMap f=l.filterMap g
 | [],_=>rfl
 | x::l,h=>by
  rw[qw,qw,h x (by simp),nR (fun y hy=>h y (by simp[hy]))]
theorem bZ{l:List Nat}{i:Nat}:fI l i=true↔i∈l:=by
 induction l with
 | nil=>simp[fI]
 | cons n l ih =>
  simp only[fI]
  cases hb:Nat.beq n i with
  | true=>simp[cz hb]
  | false =>
   have: n≠i:=fun e=>by subst e;simp[jq] at hb
   simp[ih,Ne.symm this]
theorem rC{l:List Nat}{i j:Nat}(h:j∈l):j∈addN l i:=by
 unfold addN
 split
 ·exact h
 ·simp[h]
theorem yN{T:Nat→Type}:∀(v:V T) (l:List Nat) (j:Nat),j∈l→j∈V.names v l:=by
 have key:∀(n:Nat) (v:V T),SizeOf.sizeOf v<n→∀(l:List Nat) (j:Nat),j∈l→j∈V.names v l:=by
  intro n
  induction n with
  | zero=>intro v hv;omega
  | succ n ih =>
   have goL:∀(vs:List (V T)),SizeOf.sizeOf vs<n+1→∀(l:List Nat) (j:Nat),j∈l→j∈V.names.goL vs l:=by
    intro vs
    induction vs with
    | nil=>intro _ l j hj;exact hj
    | cons v vs ihv =>
     intro hs l j hj
     simp only[ny] at hs
     exact ihv (by omega) _ j (ih v (by omega) l j hj)
   intro v hv l j hj
   cases v<;>simp only[V.names]
   case d=>exact hj
   case ptr=>exact rC hj
   case fp=>exact hj
   case sl=>exact rC hj
   case mp=>exact rC hj
   case it=>exact rC hj
   case fn f vs us=>simp only[V.fn.sizeOf_spec] at hv;exact goL us (by omega) _ j (goL vs (by omega) l j hj)
   case ifc t v=>simp only[V.ifc.sizeOf_spec] at hv;exact ih v (by omega) l j hj
   case agg vs=>simp only[V.agg.sizeOf_spec] at hv;exact goL vs (by omega) l j hj
   case tup vs=>simp only[V.tup.sizeOf_spec] at hv;exact goL vs (by omega) l j hj
   case undef=>exact hj
   case any=>exact hj
 intro v l j hj
 exact key (SizeOf.sizeOf v+1) v (by omega) l j hj
theorem qGJ{T:Nat→Type}:∀(vs:List (V T)) (l:List Nat) (j:Nat),j∈l→j∈V.names.goL vs l
 | [],_,_,h=>h
 | v::vs,l,j,h=>qGJ vs _ j (yN v l j h)
theorem qAM{T:Nat→Type}(o:O T)(l:List Nat)(j:Nat)(h:j∈l):j∈o.names l:=by
 cases o with
 | rows k xs =>
  simp only[O.names]
  induction xs generalizing l with
  | nil=>exact h
  | cons x xs ih=>exact ih _ (qGJ x l j h)
 | trows e xs=>exact h
 | map c es =>
  simp only[O.names]
  induction es generalizing l with
  | nil=>exact h
  | cons x xs ih=>exact ih _ (yN _ _ j (yN _ l j h))
 | sit s p=>exact h
 | mit m a b c =>
  cases m with
  | none=>exact h
  | some i=>exact rC h
theorem qCt{T:Nat→Type}{get:Nat→Option (O T)}:∀(n k:Nat) (l:List Nat) (j:Nat),j∈l→j∈reach get n k l:=by
 intro n
 induction n with
 | zero=>intro k l j h;exact h
 | succ n ih =>
  intro k l j h
  simp only[reach]
  split
  ·exact h
  ·split
   ·exact ih _ _ j (qAM _ l j h)
   ·exact ih _ _ j h
theorem qEh{T:Nat→Type}{get get':Nat→Option (O T)}:∀(n k:Nat) (l:List Nat),(∀i∈reach get n k l,get i=get' i)→reach get' n k l=reach get n k l:=by
 intro n
 induction n with
 | zero=>intro k l _;rfl
 | succ n ih =>
  intro k l h
  simp only[reach] at h ⊢
  split
  ·rfl
  ·rename_i i hi
   rw[hi] at h
   simp only at h
   have hil:i∈l:=ll hi
   have e:get i=get' i:=by
    apply h
    split
    ·exact qCt _ _ _ i (qAM _ l i hil)
    ·exact qCt _ _ _ i hil
   rw[←e]
   exact ih _ _ h
theorem qDs{T:Nat→Type}{op:Op}{val val':Operand→Option (V T)}{get get':Nat→Option (O T)}(hv:∀x∈op.operands,val x=val' x)(hg:∀i∈bQ op val get,get i=get' i):bQ op val' get' = bQ op val get:=by
 have e:op.operands.toList.filterMap val=op.operands.toList.filterMap val':=nR (fun x hx=>hv x (by simpa using hx))
 unfold bQ at *
 rw[←e]
 simp only at hg ⊢
 split
 ·rfl
 ·rename_i hm
  simp only[hm] at hg
  split
  ·rename_i hc
   simp only[hc] at hg
   exact qEh _ _ _ hg
  ·rfl
theorem qO{T:Nat→Type}{get get':Nat→Option (O T)}:∀(l:List Nat) (t:Tr (O T)),(∀i∈l,get i=get' i)→l.foldl (fun t i=>t.set i (get i)) t=l.foldl (fun t i=>t.set i (get' i)) t
 | [],_,_=>rfl
 | i::l,t,h=>by
  rw[lv,lv,h i (by simp)]
  exact qO l _ (fun j hj=>h j (by simp[hj]))
theorem qEi{T:Nat→Type}{get get':Nat→Option (O T)}{nx:Nat}{l:List Nat}(h:∀i∈l,get i=get' i):fQ get nx l=fQ get' nx l:=by
 unfold fQ
 rw[qO l _ h]
theorem nH{T:Nat→Type}{get:Nat→Option (O T)}:∀(l:List Nat) (t:Tr (O T)),(∀i∈l,Tr.ok i=true)→∀j,(l.foldl (fun t i=>t.set i (get i)) t).get j=if j∈l then get j else t.get j
 | [],_,_,j=>by simp
 | i::l,t,h,j=>by
  rw[lv,nH l _ (fun k hk=>h k (by simp[hk])) j,Tr.dG (h i (by simp))]
  by_cases h1:j∈l
  ·simp[h1]
  ·by_cases h2:j=i
   ·subst h2;simp
   ·simp[h1,h2]
structure FS(T:Nat→Type) where
 env:Nat→Option (V T)
 H:Nat→Option (O T)
theorem FS.ext'{T:Nat→Type}{s s':FS T}(h1:s.env=s'.env)(h2:s.H=s'.H):s=s':=by cases s;cases s';simp_all
def vB{T:Nat→Type}(env:Nat→Option (V T))(dst:Option Nat)(v:V T):Nat→Option (V T):=match dst with
 | some d=>fun t=>if t=d then some v else env t
 | none=>env
def kK{T:Nat→Type}(H:Nat→Option (O T))(l:List Nat)(G:Nat→Option (O T)):Nat→Option (O T):=fun i=>if i∈l then G i else H i
def FS.step{T:Nat→Type}(s:FS T)(dst:Option Nat)(v:V T)(l:List Nat)(G:Nat→Option (O T)):FS T:=⟨vB s.env dst v,kK s.H l G⟩
def bJ{T:Nat→Type}(ops:Array Oper)(o:Oper)(env:Nat→Option (V T)):Option Bool :=
 match o.guard with
 | none=>some true
 | some (j,want)=>(match (ops[j]?).bind (·.dst) with
  | none=>none
  | some d=>(match env d with | some (.d (.bool b))=>some (b==want) | some .undef=>some false | _=>none))
def Step(P:Program)(hd:Hd reg.T)(nt:Nat)(ops:Array Oper)(o:Oper)(s s':FS reg.T)(f:eB):Prop :=
 gL nt o.dst=true ∧
 ((bJ ops o s.env=some true∧f.rd=bQ o.op (valOf s.env) s.H∧∃v p',(dO P hd o.op (valOf s.env) (fQ s.H f.n0 f.rd)).K (·= (v,p')) ∧
   iA f.rd p'.wr f.n0 p'.nx=true∧f.wr=p'.wr++List.range' f.n0 (p'.nx-f.n0)∧f.n1=p'.nx∧s' = s.step o.dst v f.wr p'.get) ∨
  (bJ ops o s.env=some false∧f.rd=[]∧f.wr=[]∧f.n1=f.n0∧s' = s.step o.dst .undef [] (fun _=>none)))
theorem Step.form{hd:Hd reg.T}{nt:Nat}{ops:Array Oper}{o:Oper}{s s':FS reg.T}{f:eB}(h:Step P hd nt ops o s s' f):∃v G,s' = s.step o.dst v f.wr G:=by
 rcases h.2 with⟨_,_,v,p',_,_,_,_,h3⟩ | ⟨_,_,h2,_,h3⟩
 ·exact⟨v,p'.get,h3⟩
 ·exact⟨.undef,fun _=>none,by rw[h2];exact h3⟩
theorem qAN{ops:Array Oper}{o:Oper}{t:Tmp}(h:Operand.tmp t∈o.op.operands):t∈o.looksAt ops:=by
 unfold Oper.looksAt
 simp only[dw,List.mem_filterMap]
 exact .inl ⟨.tmp t,by simpa using h,rfl⟩
theorem qAO{T:Nat→Type}{env:Nat→Option (V T)}{dst:Option Nat}{v:V T}{x:Operand}(h:∀d,dst=some d→x≠.tmp d):valOf (vB env dst v) x=valOf env x:=by
 cases dst with
 | none=>rfl
 | some d =>
  cases x with
  | tmp t =>
   have: t≠d:=fun e=>h d rfl (by rw[e])
   simp[valOf,vB,this]
  | const c=>rfl
  | func f=>rfl
  | global g=>rfl
theorem wN{T:Nat→Type}{ops:Array Oper}{o:Oper}{env:Nat→Option (V T)}{dst:Option Nat}{v:V T}(h:∀d,dst=some d→d ∉ o.looksAt ops):bJ ops o (vB env dst v)=bJ ops o env:=by
 unfold bJ
 cases hg:o.guard with
 | none=>rfl
 | some g =>
  obtain⟨j,want⟩:=g
  simp only
  cases hd:(ops[j]?).bind (·.dst) with
  | none=>rfl
  | some d =>
   have hne:dst≠some d:=fun e=>h d e (by
    unfold Oper.looksAt
    simp only[hg,hd,dw]
    exact .inr (by simp))
   simp only
   have e:vB env dst v d=env d:=by
    cases dst with
    | none=>rfl
    | some d' =>
     have: d≠d':=fun e=>hne (by rw[e])
     simp[vB,this]
   rw[e]
theorem Step.agree{hd:Hd reg.T}{nt:Nat}{ops:Array Oper}{o:Oper}{s t s':FS reg.T}{f:eB}(h:Step P hd nt ops o s s' f)(hv:∀x∈o.op.operands,valOf s.env x=valOf t.env x)(hw:bJ ops o t.env=bJ ops o s.env)
  (hH:∀i∈f.rd,s.H i=t.H i):∃v G,s' = s.step o.dst v f.wr G∧Step P hd nt ops o t (t.step o.dst v f.wr G) f:=by
 obtain⟨h0,h⟩:=h
 rcases h with⟨h1,h2,v,p',h3,h4,h5,h6,h7⟩ | ⟨h1,h2,h3,h4,h5⟩
 ·have e1:f.rd=bQ o.op (valOf t.env) t.H:=by
   rw[h2]
   exact(qDs hv (fun i hi=>hH i (h2▸hi))).symm
  refine⟨v,p'.get,h7,h0,.inl ⟨hw.trans h1,e1,v,p',?_,h4,h5,h6,rfl⟩⟩
  rw[←qEg hv,←qEi hH]
  exact h3
 ·exact⟨.undef,fun _=>none,by rw[h3];exact h5,h0,.inr ⟨hw.trans h1,h2,h3,h4,by rw[h3]⟩⟩
theorem qI0{T:Nat→Type}{env:Nat→Option (V T)}{x y:Option Nat}{v u:V T}(h:∀d,x=some d→y≠some d):vB (vB env x v) y u=vB (vB env y u) x v:=by
 cases x with
 | none=>rfl
 | some d =>
  cases y with
  | none=>rfl
  | some d' =>
   have hne:d≠d':=fun e=>h d rfl (by rw[e])
   funext t
   simp only[vB]
   by_cases h1:t=d'
   ·subst h1;simp[Ne.symm hne]
   ·by_cases h2:t=d
    ·subst h2;simp[h1]
    ·simp[h1,h2]
theorem qI1{T:Nat→Type}{H:Nat→Option (O T)}{l m:List Nat}{G G':Nat→Option (O T)}(h:∀i∈l,i ∉ m):kK (kK H l G) m G' = kK (kK H m G') l G:=by
 funext i
 simp only[kK]
 by_cases h1:i∈l
 ·simp[h1,h i h1]
 ·simp[h1]
theorem Step.swap{hd:Hd reg.T}{nt:Nat}{ops:Array Oper}{oa ob:Oper}{s s1 s2:FS reg.T}{fa fb:eB}(ha:Step P hd nt ops oa s s1 fa)(hb:Step P hd nt ops ob s1 s2 fb)
  (hap:oa.apart ops ob=true) (h1:∀i∈fa.wr,i ∉ fb.rd∧i ∉ fb.wr) (h2:∀i∈fb.wr,i ∉ fa.rd∧i ∉ fa.wr):∃s1',Step P hd nt ops ob s s1' fb∧Step P hd nt ops oa s1' s2 fa:=by
 obtain⟨p1,p2,p3⟩:=Oper.apart_spec hap
 obtain⟨x,Gx,e1⟩:=ha.form
 subst e1
 obtain⟨v,G,e2,hb'⟩:=hb.agree (t:=s) (fun y hy=>qAO (fun d hd e=>by subst e;exact p1 d hd (qAN hy))) (wN (fun d hd=>p1 d hd)).symm (fun i hi=>by
  show kK s.H fa.wr Gx i=s.H i
  simp only[kK]
  rw[if_neg (fun hx=>(h1 i hx).1 hi)])
 obtain⟨x',Gx',e3,ha'⟩:=ha.agree (t:=s.step ob.dst v fb.wr G) (fun y hy=>(qAO (fun d hd e=>by subst e;exact p3 d hd (qAN hy))).symm) (wN (fun d hd=>p3 d hd)) (fun i hi=>by
  show s.H i=kK s.H fb.wr G i
  simp only[kK]
  rw[if_neg (fun hx=>(h2 i hx).1 hi)])
 refine⟨_,hb',?_⟩
 have: s2=(s.step ob.dst v fb.wr G).step oa.dst x' fa.wr Gx':=by
  rw[e2,e3]
  exact FS.ext' (qI0 p2) (qI1 (fun i hi=>(h1 i hi).2))
 rw[this]
 exact ha'
inductive Ch(P:Program)(hd:Hd reg.T)(nt:Nat)(ops:Array Oper):List eB→FS reg.T→FS reg.T→Prop
 | nil (s:FS reg.T):Ch P hd nt ops [] s s
 | cons (f:eB) (l:List eB) (o:Oper) (s s1 s2:FS reg.T) (ho:ops[f.at_]? = some o) (hs:Step P hd nt ops o s s1 f) (h:Ch P hd nt ops l s1 s2):Ch P hd nt ops (f::l) s s2
def Apart(ops:Array Oper)(g f:eB):Prop:=∀og of,ops[g.at_]? = some og→ops[f.at_]? = some of→og.apart ops of=true∧(∀i∈g.wr,i ∉ f.rd∧i ∉ f.wr)∧∀i∈f.wr,i ∉ g.rd∧i ∉ g.wr
theorem Ch.front{hd:Hd reg.T}{nt:Nat}{ops:Array Oper}{f:eB}{l2:List eB}:∀{l1:List eB} {s s2:FS reg.T},Ch P hd nt ops (l1++f::l2) s s2→(∀g∈l1,Apart ops g f) →
  ∃o s1,ops[f.at_]? = some o∧Step P hd nt ops o s s1 f∧Ch P hd nt ops (l1++l2) s1 s2:=by
 intro l1
 induction l1 with
 | nil =>
  intro s s2 h _
  cases h with
  | cons _ _ o _ s1 _ ho hs h=>exact⟨o,s1,ho,hs,h⟩
 | cons g l1 ih =>
  intro s s2 h hap
  cases h with
  | cons _ _ o _ s1 _ ho hs h =>
   obtain⟨of,s1',hof,hsf,hrest⟩:=ih h (fun g' hg'=>hap g' (by simp[hg']))
   obtain⟨a1,a2,a3⟩:=hap g (by simp) o of ho hof
   obtain⟨t,h1,h2⟩:=hs.swap hsf a1 a2 a3
   exact⟨of,t,hof,h1,.cons g _ o t s1' s2 ho h2 hrest⟩
end
end Go.W
namespace Go.W
open Go Go.RowKit
section
variable {reg:Reg} {P:Program} {dl:List Deferred}
structure RF(dl:List Deferred)(N F:Nat→Prop)(φ:Phi)(nt:Nat)(s:FS reg.T)(a:Act)(w:World):Prop where
 env:∀t v,s.env t=some v→t<nt∧aA reg F w φ v (a.tmps.getD t undef)
 size:a.tmps.size=nt
 heap:iX reg F φ N s.H w
 dfs:a.defers=dl
theorem iX.sub{F:Nat→Prop}{φ:Phi}{N:Nat→Prop}{H H':Nat→Option (O reg.T)}{w:World}(h:iX reg F φ N H w)(hs:∀i o,H' i=some o→H i=some o):iX reg F φ N H' w :=
 ⟨fun i o ho=>h.obj i o (hs i o ho),fun i o b s k ho hp=>h.own i o b s k (hs i o ho) hp,fun i j oi oj b s k s' k' hi hj=>h.inj i j oi oj b s k s' k' (hs _ _ hi) (hs _ _ hj),h.dom,fun i o ho=>h.lt i o (hs i o ho),h.ok,h.frz,h.lay⟩
theorem jU{l wr:List Nat}{n0 n1:Nat}(h:iA l wr n0 n1=true):n0≤n1∧Tr.ok n1=true∧(∀i∈l,Tr.ok i=true)∧∀i∈wr,i∈l∨(n0≤i∧i<n1):=by
 unfold iA at h
 simp only[bu,ek,jm,bZ] at h
 refine⟨by simpa using h.1.1.1,h.1.1.2,h.1.2,fun i hi=>?_⟩
 rcases h.2 i hi with h1 | h1
 ·exact .inl h1
 ·exact .inr ⟨by simpa using h1.1,by simpa using h1.2⟩
theorem qCu{H:Nat→Option (O reg.T)}{n0:Nat}{l:List Nat}(hl:∀i∈l,Tr.ok i=true)(j:Nat):(fQ H n0 l).get j=if j∈l then H j else none:=by
 unfold fQ Hp.get
 rw[nH l _ hl j]
 simp[Tr.qG7]
theorem qJ7{N F:Nat→Prop}{φ:Phi}{H:Nat→Option (O reg.T)}{w w':World}{l:List Nat}{n0:Nat}{v:V reg.T}{p':Hp reg.T}{cv:Value}(hH:iX reg F φ N H w)
  (hok:iA l p'.wr n0 p'.nx=true) (hR:Res N F φ (fQ H n0 l) w (·= (v,p')) cv w') :
  ∃N' F' φ',aA reg F' w' φ' v cv∧iX reg F' φ' N' (kK H (p'.wr++List.range' n0 (p'.nx-n0)) p'.get) w' ∧
   Goes reg F φ N H w F' φ' N' (kK H (p'.wr++List.range' n0 (p'.nx-n0)) p'.get) w'∧∀i,N' i→N i∨(n0≤i∧i<p'.nx):=by
 obtain⟨ho1,ho2,ho3,ho4⟩:=jU hok
 obtain⟨v1,h1,N',F',φ',hq,hv,hP,hG⟩:=hR
 cases hq
 have hg:=qCu (H:=H) (n0:=n0) ho3
 have hsub:∀i o,(fQ H n0 l).get i=some o→H i=some o:=by
  intro i o hi
  rw[hg] at hi
  split at hi
  ·exact hi
  ·cases hi
 have hHp:=hH.sub hsub
 have hin:∀i,i∈p'.wr++List.range' n0 (p'.nx-n0)→kK H (p'.wr++List.range' n0 (p'.nx-n0)) p'.get i=p'.get i:=fun i hi=>by simp only[kK];rw[if_pos hi]
 have hout:∀i,i ∉ p'.wr++List.range' n0 (p'.nx-n0)→kK H (p'.wr++List.range' n0 (p'.nx-n0)) p'.get i=H i∧p'.get i=(fQ H n0 l).get i:=by
  intro i hi
  refine⟨by simp only[kK];rw[if_neg hi],?_⟩
  simp only[dw,not_or] at hi
  obtain⟨_,L,hL,hgr⟩:=hG.grow
  have e:p'.wr=L:=by rw[hL];simp[fQ]
  refine hgr i (fun h=>hi.1 (e▸h)) (fun h=>hi.2 ?_)
  have h':n0≤i∧i<p'.nx:=h
  rw[mh]
  omega
 have cases':∀i o,kK H (p'.wr++List.range' n0 (p'.nx-n0)) p'.get i=some o→p'.get i=some o∨(H i=some o∧i ∉ l):=by
  intro i o hi
  by_cases hm:i∈p'.wr++List.range' n0 (p'.nx-n0)
  ·rw[hin i hm] at hi;exact .inl hi
  ·obtain⟨e1,e2⟩:=hout i hm
   rw[e1] at hi
   by_cases hl:i∈l
   ·left;rw[e2,hg,if_pos hl,hi]
   ·exact .inr ⟨hi,hl⟩
 have hOwn:∀b,bR reg φ (fQ H n0 l).get b→bR reg φ H b:=fun b ⟨i,o,s,k,hi,hp⟩=>⟨i,o,s,k,hsub i o hi,hp⟩
 have apart:∀i o b s k,H i=some o→i ∉ l→φ i=some (b,s,k)→¬bR reg φ (fQ H n0 l).get b:=by
  rintro i o b s k hi hl hp ⟨j,oj,s',k',hj,hpj⟩
  have hjl:j∈l:=by
   rw[hg] at hj
   by_cases h:j∈l
   ·exact h
   ·rw[if_neg h] at hj;cases hj
  have:= hH.inj i j o oj b s k s' k' hi (hsub j oj hj) hp hpj
  exact hl (this▸hjl)
 have keep:=hG.goes.keep hHp
 have old:∀i o,H i=some o→φ' i=φ i:=fun i o hi=>hG.goes.phi i (hH.lt i o hi)
 have oldb:∀i o b s k,H i=some o→i ∉ l→φ i=some (b,s,k)→w'.heap[b]? = w.heap[b]?:=fun i o b s k hi hl hp=>hG.goes.block b (hH.own i o b s k hi hp).2 (apart i o b s k hi hl hp)
 have oldF:∀i o b s k,H i=some o→i ∉ l→φ i=some (b,s,k)→¬F' b:=by
  intro i o b s k hi hl hp hf
  rcases hG.goes.fnew b hf with h | h | h
  ·exact(hH.own i o b s k hi hp).1 h
  ·have:= (hH.own i o b s k hi hp).2;omega
  ·exact apart i o b s k hi hl hp h
 have mixed:∀i j oi oj b s k s' k',p'.get i=some oi→(H j=some oj∧j ∉ l)→φ' i=some (b,s,k)→φ' j=some (b,s',k')→False:=by
  intro i j oi oj b s k s' k' hi hj hpi hpj
  rw[old j oj hj.1] at hpj
  rcases hG.goes.dom b ⟨i,oi,s,k,hi,hpi⟩ with h | h
  ·exact apart j oj b s' k' hj.1 hj.2 hpj h
  ·have:= (hH.own j oj b s' k' hj.1 hpj).2;omega
 refine⟨N',F',φ',hv,⟨fun i o hi=>?_,fun i o b s k hi hp=>?_,fun i j oi oj b s k s' k' hi hj hpi hpj=>?_,hP.dom,fun i o hi=>?_,hP.ok,hP.frz,hP.lay⟩,⟨hG.goes.os,hG.goes.tape,hG.goes.output,hG.goes.size,fun b hb hn=>hG.goes.block b hb (fun h=>hn (hOwn b h)),hG.goes.fsub,fun b hb=>?_,hG.goes.phi,hG.goes.names,fun b hb=>?_,fun i p hp=>?_⟩,hG.names⟩
 ·rcases cases' i o hi with h | ⟨h,hl⟩
  ·exact hP.obj i o h
  ·exact(hH.obj i o h).mono reg keep.1 keep.2 (fun e=>by rw[old i o h];exact e) (fun b s k hp=>oldb i o b s k h hl hp)
 ·rcases cases' i o hi with h | ⟨h,hl⟩
  ·exact hP.own i o b s k h hp
  ·rw[old i o h] at hp
   exact⟨oldF i o b s k h hl hp,gq (hH.own i o b s k h hp).2 hG.goes.size⟩
 ·rcases cases' i oi hi with h | h<;>rcases cases' j oj hj with h' | h'
  ·exact hP.inj i j oi oj b s k s' k' h h' hpi hpj
  ·exact(mixed i j oi oj b s k s' k' h h' hpi hpj).elim
  ·exact(mixed j i oj oi b s' k' s k h' h hpj hpi).elim
  ·rw[old i oi h.1] at hpi
   rw[old j oj h'.1] at hpj
   exact hH.inj i j oi oj b s k s' k' h.1 h'.1 hpi hpj
 ·rcases cases' i o hi with h | ⟨h,_⟩
  ·exact hP.lt i o h
  ·exact hG.goes.names i (hH.lt i o h)
 ·rcases hG.goes.fnew b hb with h | h | h
  ·exact .inl h
  ·exact .inr (.inl h)
  ·exact .inr (.inr (hOwn b h))
 ·obtain⟨i,o,s,k,hi,hp⟩:=hb
  rcases cases' i o hi with h | ⟨h,hl⟩
  ·rcases hG.goes.dom b ⟨i,o,s,k,h,hp⟩ with h2 | h2
   ·exact .inl (hOwn b h2)
   ·exact .inr h2
  ·rw[old i o h] at hp
   exact .inl ⟨i,o,s,k,h,hp⟩
 ·rcases hG.goes.new i p hp with h | h | h
  ·exact .inl h
  ·exact .inr (.inl h)
  ·exact .inr (.inr (hOwn _ h))
theorem kR{N F:Nat→Prop}{φ:Phi}{nt:Nat}{s:FS reg.T}{a:Act}{w:World}(hR:RF dl N F φ nt s a w){x:Operand}{v:V reg.T}(h:valOf s.env x=some v):aA reg F w φ v (a.eval x):=by
 cases x with
 | tmp t =>
  have:= (hR.env t v h).2
  simpa [Act.eval,dz] using this
 | const c=>simp only[valOf,cu] at h;subst h;exact aA.ofValue c
 | func f=>simp only[valOf,cu] at h;subst h;exact .fn f [] [] #[] #[] rfl (fun j hj=>by simp at hj) rfl (fun j hj=>by simp at hj)
 | global g=>simp[valOf] at h
theorem jD{N F:Nat→Prop}{φ:Phi}{nt:Nat}{s:FS reg.T}{a:Act}{w:World}(hR:RF dl N F φ nt s a w){ops:Array Oper}{o:Oper}{b:Bool}(hb:bJ ops o s.env=some b):Region.wanted o (yielded ops a.tmps)=b:=by
 unfold bJ at hb
 unfold Region.wanted
 cases hg:o.guard with
 | none=>rw[hg] at hb;simpa using hb
 | some g =>
  obtain⟨j,want⟩:=g
  rw[hg] at hb
  simp only at hb ⊢
  cases hdj:(ops[j]?).bind (·.dst) with
  | none=>rw[hdj] at hb;simp at hb
  | some d =>
   rw[hdj] at hb
   simp only at hb
   obtain⟨oj,hoj,hdd⟩:=fo.1 hdj
   split at hb
   ·rename_i x hx
    have hv:=(hR.env d _ hx).2
    have hlt:d<a.tmps.size:=by rw[hR.size];exact(hR.env d _ hx).1
    have hz:=hv.fB
    have he:a.tmps[d]? = some (.bool x):=by
     simp only[dz,l5 hlt,mq] at hz
     rw[l5 hlt,hz]
    unfold yielded
    simp only[cu] at hb
    subst hb
    simp[hoj,hdd,he]
   ·rename_i hx
    have hv:=(hR.env d _ hx).2
    have hlt:d<a.tmps.size:=by rw[hR.size];exact(hR.env d _ hx).1
    generalize hz:a.tmps.getD d Go.undef=z at hv
    cases hv with
    | undef =>
     have he:a.tmps[d]? = some Go.undef:=by
      simp only[dz,l5 hlt,mq] at hz
      rw[l5 hlt,hz]
     unfold yielded
     simp only[cu] at hb
     subst hb
     simp[hoj,hdd,he,Go.undef]
   ·simp at hb
theorem RF.put{N N' F F':Nat→Prop}{φ φ':Phi}{nt:Nat}{s:FS reg.T}{a:Act}{w w':World}{H':Nat→Option (O reg.T)}(hR:RF dl N F φ nt s a w)(hH':iX reg F' φ' N' H' w')
  (hG:Goes reg F φ N s.H w F' φ' N' H' w') {dst:Option Nat} (hd:gL nt dst=true) {v:V reg.T} {cv:Value} (hv:aA reg F' w' φ' v cv):RF dl N' F' φ' nt ⟨vB s.env dst v,H'⟩ (a.put dst cv) w':=by
 have hold:∀t x,s.env t=some x→t<nt∧aA reg F' w' φ' x (a.tmps.getD t undef):=fun t x hx=>⟨(hR.env t x hx).1,hG.val hR.heap (hR.env t x hx).2⟩
 cases dst with
 | none=>exact⟨hold,hR.size,hH',hR.dfs⟩
 | some d =>
  have hd':d<nt:=by simpa [gL] using hd
  refine⟨fun t x hx=>?_,by simp[Act.put,hR.size],hH',hR.dfs⟩
  simp only[vB] at hx
  by_cases ht:t=d
  ·subst ht
   rw[if_pos rfl] at hx
   cases hx
   refine⟨hd',?_⟩
   have hs:=hR.size
   simp only[Act.put,dz,j6]
   simp only[if_true]
   rw[if_pos (by omega)]
   exact hv
  ·rw[if_neg ht] at hx
   have:= hold t x hx
   refine⟨this.1,?_⟩
   simp only[Act.put,dz,j6]
   rw[if_neg (Ne.symm ht)]
   simpa [dz] using this.2
theorem nS{env:Tr (V reg.T)}{nt:Nat}(hnt:nt≤1000000){dst:Option Nat}(hd:gL nt dst=true)(v:V reg.T)(h:Hp reg.T):(St.put ⟨env,h⟩ dst v).env.get=vB env.get dst v:=by
 cases dst with
 | none=>rfl
 | some d =>
  have hd':d<nt:=by simpa [gL] using hd
  funext t
  show(env.set d (some v)).get t=_
  rw[Tr.dG (by unfold Tr.ok;simp;omega)]
  rfl
variable {hd:Hd reg.T} {nt:Nat}
theorem Step.sound{r:Option Nat}{m:Nat}(hHd:bT P hd){ops:Array Oper}{i:Nat}{o:Oper}(hi:ops[i]? = some o){s s':FS reg.T}{f:eB}(h:Step P hd nt ops o s s' f)
  {N F:Nat→Prop} {φ:Phi} {a:Act} {w:World} (hR:RF dl N F φ nt s a w) (hfr:bX N f.n0 f.n1) {K:Act→World→Prop} {Q:Exit→Act→World→Prop}
  (hK:∀N' F' φ' a' w',RF dl N' F' φ' nt s' a' w'→Goes reg F φ N s.H w F' φ' N' s'.H w'→(∀i,N' i→N i∨(f.n0≤i∧i<f.n1))→K a' w'):wpOpIn (Fr r) m P ops Q i K a w:=by
 obtain⟨hdst,h⟩:=h
 unfold wpOpIn
 simp only[hi]
 rcases h with⟨h1,h2,v,p',h3,h4,h5,h6,h7⟩ | ⟨h1,h2,h3,h4,h5⟩
 ·rw[if_pos (jD hR h1)]
  obtain⟨_,_,hk,_⟩:=jU h4
  refine qEf (N:=N) (F:=F) (φ:=φ) (h:=fQ s.H f.n0 f.rd) hHd (o:=o) (Q:=(·= (v,p'))) (val:=valOf s.env) ?_ ?_ (fun x v hx=>kR hR hx) h3 (fun cv w' hres=>?_)
  ·refine hR.heap.sub (fun i o hi=>?_)
   rw[qCu hk] at hi
   split at hi
   ·exact hi
   ·cases hi
  ·rintro r rfl
   show bX N f.n0 p'.nx
   rw[←h6];exact hfr
  ·obtain⟨N',F',φ',hv,hH',hG,hN⟩:=qJ7 hR.heap h4 hres
   subst h7
   rw[←h5] at hH' hG
   rw[←h6] at hN
   exact hK N' F' φ' _ w' (hR.put hH' hG hdst hv) hG hN
 ·rw[if_neg (by rw[jD hR h1];simp)]
  have e:kK s.H [] (fun _=>none)=s.H:=by funext i;simp[kK]
  refine⟨fun _ _=>trivial,hK N F φ _ w ?_ ?_ (fun i hi=>.inl hi)⟩
  ·rw[h5]
   show RF dl N F φ nt ⟨vB s.env o.dst .undef,kK s.H [] (fun _=>none)⟩ _ w
   rw[e]
   exact hR.put hR.heap (Goes.refl reg hR.heap) hdst .undef
  ·rw[h5]
   show Goes reg F φ N s.H w F φ N (kK s.H [] (fun _=>none)) w
   rw[e]
   exact Goes.refl reg hR.heap
end
end Go.W
namespace Go.W
open Go Go.RowKit
section
variable {reg:Reg} {P:Program} {hd:Hd reg.T} {nt:Nat} {dl:List Deferred}
theorem iB(st:St reg.T)(dst:Option Nat)(v:V reg.T):(st.put dst v).hp=st.hp:=by cases dst<;>rfl
theorem qEj{i n:Nat}(h:Tr.ok n=true)(hi:i<n):Tr.ok i=true:=by unfold Tr.ok at *;simp at *;omega
theorem qEk{h p:Hp reg.T}{l:List Nat}(hl:∀i∈l,Tr.ok i=true):(h.join p l).get=kK h.get l p.get:=by
 funext j
 show(l.foldl (fun t i=>t.set i (p.get i)) h.h).get j=_
 rw[nH l _ hl j]
 rfl
theorem qAP{l wr:List Nat}{n0 n1:Nat}(h:iA l wr n0 n1=true):∀i∈wr++List.range' n0 (n1-n0),Tr.ok i=true:=by
 obtain⟨h1,h2,h3,h4⟩:=jU h
 intro i hi
 rcases dw.1 hi with hi | hi
 ·rcases h4 i hi with h | h
  ·exact h3 i h
  ·exact qEj h2 h.2
 ·rw[mh] at hi
  exact qEj h2 (by omega)
theorem qI2{h p:Hp reg.T}{l:List Nat}(hok:iA l p.wr h.nx p.nx=true):Grow h (h.join p (p.wr++List.range' h.nx (p.nx-h.nx))):=by
 refine⟨(jU hok).1,p.wr,rfl,fun i hi hn=>?_⟩
 rw[qEk (qAP hok)]
 simp only[kK]
 rw[if_neg]
 intro hm
 rcases dw.1 hm with h1 | h1
 ·exact hi h1
 ·rw[mh] at h1
  exact hn ⟨h1.1,by show i<p.nx;omega⟩
structure Rng(l:List eB)(lo hi:Nat):Prop where
 le:lo≤hi
 in_:∀f∈l,lo≤f.n0∧f.n0≤f.n1∧f.n1≤hi
 ord:l.Pairwise (fun f g=>f.n1≤g.n0∨g.n1≤f.n0)
theorem wO(hnt:nt≤1000000){ops:Array Oper}:∀{rest:List Oper} {n:Nat} {st:St reg.T} {tr:List eB} {Q:St reg.T×List eB→Prop},(eY P hd nt ops rest n st tr).K Q →
  (∀j,rest[j]? = ops[n+j]?)→∃l st',Ch P hd nt ops l ⟨st.env.get,st.hp.get⟩ ⟨st'.env.get,st'.hp.get⟩∧Q (st',l.reverse++tr)∧l.map (·.at_)=List.range' n rest.length∧Grow st.hp st'.hp∧Rng l st.hp.nx st'.hp.nx:=by
 intro rest
 induction rest with
 | nil=>intro n st tr Q h _;exact⟨[],st,.nil _,h,rfl,Grow.refl _,⟨dh _,by simp,.nil⟩⟩
 | cons o rest ih =>
  intro n st tr Q h hr
  have ho:ops[n]? = some o:=by have:= hr 0;simpa using this.symm
  have hr':∀j,rest[j]? = ops[n+1+j]?:=fun j=>by have:= hr (j+1);simp only[lu] at this;rw[this];congr 1;omega
  simp only[eY] at h
  split at h
  ·exact h.elim
  rename_i hdst
  have run:bJ ops o st.env.get=some true →
    ((dO P hd o.op (valOf st.env.get) (fQ st.hp.get st.hp.nx (bQ o.op (valOf st.env.get) st.hp.get))).bind fun r =>
     Out.ask (iA (bQ o.op (valOf st.env.get) st.hp.get) r.2.wr st.hp.nx r.2.nx) (eY P hd nt ops rest (n+1) (St.put ⟨st.env,st.hp.join r.2 (r.2.wr++List.range' st.hp.nx (r.2.nx-st.hp.nx))⟩ o.dst r.1)
      (⟨n,bQ o.op (valOf st.env.get) st.hp.get,r.2.wr++List.range' st.hp.nx (r.2.nx-st.hp.nx),st.hp.nx,r.2.nx⟩::tr))).K Q →
    ∃l st',Ch P hd nt ops l ⟨st.env.get,st.hp.get⟩ ⟨st'.env.get,st'.hp.get⟩∧Q (st',l.reverse++tr)∧l.map (·.at_)=List.range' n (rest.length+1)∧Grow st.hp st'.hp∧Rng l st.hp.nx st'.hp.nx:=by
   intro hw h
   rw[Out.aU] at h
   obtain⟨⟨v,p'⟩,h1,h2⟩:=(Out.bP _ _).1 h
   obtain⟨hok,h2⟩:=Out.bG.1 h2
   simp only at h2 hok
   obtain⟨l,st',h4,h5,h6,h7,h8⟩:=ih h2 hr'
   rw[iB] at h7 h8
   have hg:=(qI2 hok).trans h7
   have hle:=(jU hok).1
   refine⟨⟨n,_,_,st.hp.nx,p'.nx⟩::l,st',.cons _ l o _ _ _ ho ⟨hdst,.inl ⟨hw,rfl,v,p',h1,hok,rfl,rfl,rfl⟩⟩ ?_,by rw[qb,gm];exact h5,by simp[h6,List.range'_succ],hg,⟨hg.1,fun f hf=>?_,?_⟩⟩
   ·have e:(⟨(St.put ⟨st.env,st.hp.join p' (p'.wr++List.range' st.hp.nx (p'.nx-st.hp.nx))⟩ o.dst v).env.get,(St.put ⟨st.env,st.hp.join p' (p'.wr++List.range' st.hp.nx (p'.nx-st.hp.nx))⟩ o.dst v).hp.get⟩:FS reg.T) =
      FS.step ⟨st.env.get,st.hp.get⟩ o.dst v (p'.wr++List.range' st.hp.nx (p'.nx-st.hp.nx)) p'.get:=by
     refine FS.ext' (nS hnt hdst v _) ?_
     rw[iB]
     exact qEk (qAP hok)
    rw[e] at h4
    exact h4
   ·rcases fu.1 hf with rfl | hf
    ·exact⟨dh _,hle,h8.le⟩
    ·obtain⟨a,b,c⟩:=h8.in_ f hf
     have a':p'.nx≤f.n0:=a
     exact⟨by omega,b,c⟩
   ·refine jb.2 ⟨fun g hg=>.inl ?_,h8.ord⟩
    exact(h8.in_ g hg).1
  have skip:bJ ops o st.env.get=some false→(eY P hd nt ops rest (n+1) (st.put o.dst .undef) (⟨n,[],[],st.hp.nx,st.hp.nx⟩::tr)).K Q →
    ∃l st',Ch P hd nt ops l ⟨st.env.get,st.hp.get⟩ ⟨st'.env.get,st'.hp.get⟩∧Q (st',l.reverse++tr)∧l.map (·.at_)=List.range' n (rest.length+1)∧Grow st.hp st'.hp∧Rng l st.hp.nx st'.hp.nx:=by
   intro hw h
   obtain⟨l,st',h4,h5,h6,h7,h8⟩:=ih h hr'
   rw[iB] at h7 h8
   refine⟨⟨n,[],[],st.hp.nx,st.hp.nx⟩::l,st',.cons _ l o _ _ _ ho ⟨hdst,.inr ⟨hw,rfl,rfl,rfl,rfl⟩⟩ ?_,by rw[qb,gm];exact h5,by simp[h6,List.range'_succ],h7,⟨h8.le,fun f hf=>?_,?_⟩⟩
   ·have e:(⟨(St.put st o.dst .undef).env.get,(St.put st o.dst .undef).hp.get⟩:FS reg.T)=FS.step ⟨st.env.get,st.hp.get⟩ o.dst .undef [] (fun _=>none):=by
     refine FS.ext' (nS (env:=st.env) hnt hdst _ st.hp) ?_
     rw[iB]
     funext i;simp[FS.step,kK]
    rw[e] at h4
    exact h4
   ·rcases fu.1 hf with rfl | hf
    ·exact⟨dh _,dh _,h8.le⟩
    ·exact h8.in_ f hf
   ·exact jb.2 ⟨fun g hg=>.inl (h8.in_ g hg).1,h8.ord⟩
  cases hg:o.guard with
  | none =>
   rw[hg] at h
   exact run (by simp[bJ,hg]) h
  | some g =>
   obtain⟨j,want⟩:=g
   rw[hg] at h
   simp only at h
   cases hdj:(ops[j]?).bind (·.dst) with
   | none=>rw[hdj] at h;exact h.elim
   | some d =>
    rw[hdj] at h
    simp only at h
    split at h
    ·rename_i b hb
     have hw:bJ ops o st.env.get=some (b==want):=by simp[bJ,hg,hdj,hb]
     cases b<;>cases want<;>simp only[Out.K,branch,St.eQ hb] at h<;>first | exact run (by simpa using hw) h | exact skip (by simpa using hw) h
    ·rename_i hb
     exact skip (by simp[bJ,hg,hdj,hb]) h
    ·exact h.elim
theorem qAQ{ops:Array Oper}:∀{rest:List Oper} {st:St reg.T} {Q:St reg.T→Prop},(eT P hd nt ops rest st).K Q→(eT P hd nt ops rest st).K fun st'=>Q st'∧st.hp.nx≤st'.hp.nx:=by
 intro rest
 induction rest with
 | nil=>intro st Q h;exact⟨h,dh _⟩
 | cons o rest ih =>
  intro st Q h
  simp only[eT] at h ⊢
  split at h
  ·exact h.elim
  have run:((dO P hd o.op (valOf st.env.get) st.hp).bind fun r=>Out.ask (Nat.ble st.hp.nx r.2.nx) (eT P hd nt ops rest (St.put ⟨st.env,r.2⟩ o.dst r.1))).K Q →
    ((dO P hd o.op (valOf st.env.get) st.hp).bind fun r=>Out.ask (Nat.ble st.hp.nx r.2.nx) (eT P hd nt ops rest (St.put ⟨st.env,r.2⟩ o.dst r.1))).K fun st'=>Q st'∧st.hp.nx≤st'.hp.nx:=by
   intro h
   rw[Out.aU] at h ⊢
   refine Out.bN h (fun r hr=>?_)
   obtain⟨h1,h2⟩:=Out.bG.1 hr
   refine Out.bG.2 ⟨h1,Out.bN (ih h2) (fun st' ⟨a,b⟩=>⟨a,?_⟩)⟩
   rw[iB] at b
   have h1':st.hp.nx≤r.2.nx:=by simpa using h1
   exact dm h1' b
  have skip:(eT P hd nt ops rest (st.put o.dst .undef)).K Q→(eT P hd nt ops rest (st.put o.dst .undef)).K fun st'=>Q st'∧st.hp.nx≤st'.hp.nx:=by
   intro h
   refine Out.bN (ih h) (fun st' ⟨a,b⟩=>⟨a,?_⟩)
   rwa [iB] at b
  cases hg:o.guard with
  | none=>rw[hg] at h;exact run h
  | some g =>
   obtain⟨j,want⟩:=g
   rw[hg] at h
   simp only at h ⊢
   cases hdj:(ops[j]?).bind (·.dst) with
   | none=>rw[hdj] at h;exact h.elim
   | some d =>
    rw[hdj] at h
    simp only at h ⊢
    split at h
    ·rename_i b hb
     cases b<;>cases want<;>simp only[Out.K,branch,St.eQ hb] at h ⊢<;>first | exact run h | exact skip h
    ·exact skip h
    ·exact h.elim
theorem qEl{r:Option Nat}{m:Nat}(hHd:bT P hd)(hnt:nt≤1000000){ops:Array Oper}{Qx:Exit→Act→World→Prop}:∀{rest:List Oper} {n:Nat} {st:St reg.T} {Q:St reg.T→Prop},(eT P hd nt ops rest st).K Q →
  (∀j,rest[j]? = ops[n+j]?)→∀{N F:Nat→Prop} {φ:Phi} {a:Act} {w:World},RF dl N F φ nt ⟨st.env.get,st.hp.get⟩ a w→(∀st',Q st'→bX N st.hp.nx st'.hp.nx) →
  (∀st' N' F' φ' a' w',Q st'→RF dl N' F' φ' nt ⟨st'.env.get,st'.hp.get⟩ a' w'→GO N F φ st.hp w N' F' φ' st'.hp w'→Qx .normal a' w')→wpOpsIn (Fr r) m P ops Qx (List.range' n rest.length) a w:=by
 intro rest
 induction rest with
 | nil=>intro n st Q h _ N F φ a w hR _ hQ;exact hQ st _ _ _ _ _ h hR (GO.refl hR.heap)
 | cons o rest ih =>
  intro n st Q h hr N F φ a w hR hfr hQ
  have ho:ops[n]? = some o:=by have:= hr 0;simpa using this.symm
  have hr':∀j,rest[j]? = ops[n+1+j]?:=fun j=>by have:= hr (j+1);simp only[lu] at this;rw[this];congr 1;omega
  simp only[eT] at h
  split at h
  ·exact h.elim
  rename_i hdst
  rw[j5,List.range'_succ,wpOpsIn_cons]
  have run:bJ ops o st.env.get=some true→((dO P hd o.op (valOf st.env.get) st.hp).bind fun r=>Out.ask (Nat.ble st.hp.nx r.2.nx) (eT P hd nt ops rest (St.put ⟨st.env,r.2⟩ o.dst r.1))).K Q →
    wpOpIn (Fr r) m P ops Qx n (wpOpsIn (Fr r) m P ops Qx (List.range' (n+1) rest.length)) a w:=by
   intro hw h
   unfold wpOpIn
   simp only[ho]
   rw[if_pos (jD hR hw)]
   rw[Out.aU] at h
   obtain⟨⟨v,p'⟩,h1,h2⟩:=(Out.bP _ _).1 h
   obtain⟨hle,h2⟩:=Out.bG.1 h2
   have hle:st.hp.nx≤p'.nx:=by simpa using hle
   simp only at h2
   obtain⟨rr,hrr,hrq,hrn⟩:=(Out.bP _ _).1 (qAQ h2)
   rw[iB] at hrn
   have hf0:=hfr rr hrq
   refine qEf hHd (o:=o) (Q:=(·= (v,p'))) (val:=valOf st.env.get) hR.heap ?_ (fun x v hx=>kR hR hx) h1 (fun cv w' hres=>?_)
   ·rintro r' rfl i hi1 hi2
    exact hf0 i hi1 (gq hi2 hrn)
   ·obtain⟨v',h',N',F',φ',hq,hv,hH',hG⟩:=hres
    cases hq
    have hput:RF dl N' F' φ' nt ⟨(St.put ⟨st.env,p'⟩ o.dst v).env.get,(St.put ⟨st.env,p'⟩ o.dst v).hp.get⟩ (a.put o.dst cv) w':=by
     rw[iB,nS hnt hdst]
     exact hR.put hH' hG.goes hdst hv
    refine ih (Q:=(·= rr)) hrr hr' hput ?_ ?_
    ·rintro st' rfl i hi1 hi2 hi3
     rw[iB] at hi1
     rcases hG.names i hi3 with h | h
     ·exact hf0 i (dm hle hi1) hi2 h
     ·have:= h.2;simp only at hi1;omega
    ·rintro st' N'' F'' φ'' a'' w'' rfl hR'' hG''
     rw[iB] at hG''
     exact hQ st' _ _ _ _ _ hrq hR'' (hG.trans hG'')
  have skip:bJ ops o st.env.get=some false→(eT P hd nt ops rest (st.put o.dst .undef)).K Q →
    wpOpIn (Fr r) m P ops Qx n (wpOpsIn (Fr r) m P ops Qx (List.range' (n+1) rest.length)) a w:=by
   intro hw h
   unfold wpOpIn
   simp only[ho]
   rw[if_neg (by rw[jD hR hw];simp)]
   have hput:RF dl N F φ nt ⟨(St.put st o.dst .undef).env.get,(St.put st o.dst .undef).hp.get⟩ (a.put o.dst undef) w:=by
    rw[iB,nS (env:=st.env) hnt hdst]
    exact hR.put hR.heap (Goes.refl reg hR.heap) hdst .undef
   refine⟨fun _ _=>trivial,ih h hr' hput (fun st' hq=>?_) (fun st' N' F' φ' a' w' hq hR' hG=>?_)⟩
   ·rw[iB];exact hfr st' hq
   ·rw[iB] at hG;exact hQ st' _ _ _ _ _ hq hR' hG
  cases hg:o.guard with
  | none =>
   rw[hg] at h
   exact run (by simp[bJ,hg]) h
  | some g =>
   obtain⟨j,want⟩:=g
   rw[hg] at h
   simp only at h
   cases hdj:(ops[j]?).bind (·.dst) with
   | none=>rw[hdj] at h;exact h.elim
   | some d =>
    rw[hdj] at h
    simp only at h
    split at h
    ·rename_i b hb
     have hw:bJ ops o st.env.get=some (b==want):=by simp[bJ,hg,hdj,hb]
     cases b<;>cases want<;>simp only[Out.K,branch,St.eQ hb] at h<;>first | exact run (by simpa using hw) h | exact skip (by simpa using hw) h
    ·rename_i hb
     exact skip (by simp[bJ,hg,hdj,hb]) h
    ·exact h.elim
inductive Ahead(ops:Array Oper):Nat→Nat→Prop
 | one (i j:Nat) (o:Oper) (e:Edge) (ho:ops[i]? = some o) (he:e∈o.after.toList) (hb:Region.binds .any e=true) (hj:e.on=j):Ahead ops i j
 | more (i j:Nat) (o:Oper) (e:Edge) (ho:ops[i]? = some o) (he:e∈o.after.toList) (hb:Region.binds .any e=true) (hj:Ahead ops e.on j):Ahead ops i j
theorem qFE{ops:Array Oper}{acc:List Nat}(hacc:∀i m j,acc[i]? = some m→m.testBit j=true→Ahead ops i j){i:Nat}{o:Oper}(ho:ops[i]? = some o) :
  ∀(es:List Edge),(∀e∈es,e∈o.after.toList)→∀(s:Nat),(∀j,s.testBit j=true→Ahead ops i j)→∀j,
   (es.foldl (fun s e=>match Region.binds .any e with | true=>s ||| 2 ^ e.on ||| acc.getD e.on 0 | false=>s) s).testBit j=true→Ahead ops i j:=by
 intro es
 induction es with
 | nil=>intro _ s hs j h;exact hs j h
 | cons e es ih =>
  intro hes s hs j h
  rw[lv] at h
  refine ih (fun e' he'=>hes e' (by simp[he'])) _ (fun j' hj'=>?_) j h
  cases hb:Region.binds .any e with
  | false=>simp only[hb] at hj';exact hs j' hj'
  | true =>
   simp only[hb,Nat.testBit_or,jm,Nat.testBit_two_pow,decide_eq_true_eq] at hj'
   rcases hj' with(hj' | hj') | hj'
   ·exact hs j' hj'
   ·exact .one i j' o e ho (hes e (by simp)) hb hj'
   ·cases hm:acc[e.on]? with
    | none=>simp[List.getD,hm] at hj'
    | some m =>
     simp only[List.getD,hm,mq] at hj'
     exact .more i j' o e ho (hes e (by simp)) hb (hacc _ m j' hm hj')
theorem qFF{ops:Array Oper}:∀(r:List Oper) (acc:List Nat),(∀j,r[j]? = ops[acc.length+j]?)→(∀i m j,acc[i]? = some m→m.testBit j=true→Ahead ops i j) →
  ∀i m j,(masks r acc)[i]? = some m→m.testBit j=true→Ahead ops i j:=by
 intro r
 induction r with
 | nil=>intro acc _ hacc;exact hacc
 | cons o r ih =>
  intro acc hr hacc
  have ho:ops[acc.length]? = some o:=by have:= hr 0;simpa using this.symm
  refine ih _ (fun j=>?_) (fun i m j hi hm=>?_)
  ·have:= hr (j+1)
   simp only[lu] at this
   rw[this]
   congr 1
   simp
   omega
  ·rcases ja i acc.length with hlt | hge
   ·rw[j4 hlt] at hi
    exact hacc i m j hi hm
   ·rw[iw hge] at hi
    have he:i-acc.length=0:=by
     rcases lg (i-acc.length) with h | h
     ·exact h
     ·rw[l7 (by simp;omega)] at hi;simp at hi
    rw[he] at hi
    simp only[pg,cu] at hi
    subst hi
    have hi':i=acc.length:=by omega
    subst hi'
    exact qFE hacc ho _ (fun e he=>he) 0 (fun j hj=>by simp at hj) j hm
theorem mP{a b:List Nat}(h:meets a b=false):∀i∈a,i ∉ b:=by
 intro i hi hb
 have: meets a b=true:=by
  unfold meets
  rw[List.any_eq_true]
  exact⟨i,hi,by rw[List.any_eq_true];exact⟨i,hb,jq i⟩⟩
 rw[h] at this
 simp at this
theorem qI3{ops:Array Oper}:∀(r:List Oper) (n:Nat),(∀j,r[j]? = ops[n+j]?)→back r n=true→∀i o,n≤i→ops[i]? = some o→∀e∈o.after.toList,Region.binds .any e=true→e.on<i:=by
 intro r
 induction r with
 | nil =>
  intro n hr _ i o hni ho
  have:= hr (i-n)
  rw[show n+(i-n)=i by omega,ho] at this
  simp at this
 | cons o' r ih =>
  intro n hr h i o hni ho e he hb
  simp only[back,bu] at h
  rcases Nat.eq_or_lt_of_le hni with heq | hlt
  ·subst heq
   have h0:=hr 0
   simp only[pg,ky,ho,cu] at h0
   subst h0
   have:= ek.1 h.1 e he
   simpa [hb] using this
  ·exact ih (n+1) (fun j=>by have:= hr (j+1);simp only[lu] at this;rw[this];congr 1;omega) h.2 i o (by omega) ho e he hb
theorem RF.drew{N F:Nat→Prop}{φ:Phi}{s:FS reg.T}{a:Act}{w:World}(h:RF dl N F φ nt s a w):RF dl N F φ nt s a { w with drawn:=w.drawn+1 }:=by
 have hm:∀b,F b→F b∧({ w with drawn:=w.drawn+1 }:World).heap[b]? = w.heap[b]?:=fun b hb=>⟨hb,rfl⟩
 exact⟨fun t v hv=>⟨(h.env t v hv).1,(h.env t v hv).2.mono reg hm (fun _ _ e=>e)⟩,h.size,h.heap.drew rfl,h.dfs⟩
theorem Goes.drew{N F N' F':Nat→Prop}{φ φ':Phi}{H H':Nat→Option (O reg.T)}{w w':World}(h:Goes reg F φ N H { w with drawn:=w.drawn+1 } F' φ' N' H' w'):Goes reg F φ N H w F' φ' N' H' w' :=
 ⟨h.os,h.tape,h.output,h.size,h.block,h.fsub,h.fnew,h.phi,h.names,h.dom,h.new⟩
theorem Ch.any{r:Option Nat}{m:Nat}(hHd:bT P hd){ops:Array Oper}{Q:Exit→Act→World→Prop}(hback:∀i o,ops[i]? = some o→∀e∈o.after.toList,Region.binds .any e=true→e.on<i){lo up:Nat} :
  ∀(fuel:Nat) (l:List eB) (s s':FS reg.T) (listed:Array Bool),Ch P hd nt ops l s s'→l.length≤fuel→listed.size=ops.size →
   (∀i,listed.getD i true=false↔i∈l.map (·.at_))→(l.map (·.at_)).Pairwise (·< ·) →
   (∀g∈l,∀f∈l,g.at_<f.at_→Ahead ops f.at_ g.at_∨Apart ops g f) →
   (∀i j,listed.getD i false=true→Ahead ops i j→listed.getD j false=true)→Rng l lo up →
   ∀{N F:Nat→Prop} {φ:Phi} {a:Act} {w:World},RF dl N F φ nt s a w→(∀f∈l,bX N f.n0 f.n1) →
   (∀N' F' φ' a' w',RF dl N' F' φ' nt s' a' w'→Goes reg F φ N s.H w F' φ' N' s'.H w'→(∀i,N' i→N i∨(lo≤i∧i<up))→Q .normal a' w')→wpAnyIn (Fr r) m P .any ops Q fuel listed a w:=by
 intro fuel
 induction fuel with
 | zero =>
  intro l s s' listed h hf hsz hl _ _ _ _ N F φ a w hR _ hQ
  have: l=[]:=List.length_eq_zero_iff.1 (by omega)
  subst this
  cases h
  refine⟨?_,hQ _ _ _ _ _ hR (Goes.refl reg hR.heap) (fun i hi=>.inl hi)⟩
  rw[List.eq_nil_iff_forall_not_mem]
  intro i hi
  have:= (hl i).1 (mem_ready.1 hi).1
  simp at this
 | succ fuel ih =>
  intro l s s' listed h hf hsz hl hsort hap hdown hrng N F φ a w hR hfr hQ
  have hiff:∀i,listed.getD i false=true↔(i<ops.size∧i ∉ l.map (·.at_)):=by
   intro i
   rcases ja i ops.size with hlt | hge
   ·have h1:=hl i
    simp only[dz,l5 (show i<listed.size by omega),mq] at h1 ⊢
    constructor
    ·intro e;exact⟨hlt,fun hm=>by rw[h1.2 hm] at e;simp at e⟩
    ·rintro⟨_,hm⟩
     cases hb:listed[i]'(by omega) with
     | true=>rfl
     | false=>exact absurd (h1.1 hb) hm
   ·simp[Array.getElem?_eq_none (show listed.size≤i by omega)]
    omega
  refine⟨fun hnone=>?_,fun i hi=>?_⟩
  ·
   cases h with
   | nil=>exact hQ _ _ _ _ _ hR (Goes.refl reg hR.heap) (fun i hi=>.inl hi)
   | cons f l o _ s1 _ ho hs h =>
    exfalso
    have hr:f.at_∈Region.ready .any ops listed:=by
     rw[mem_ready]
     refine⟨(hl f.at_).2 (by simp),o,ho,fun e he hb=>?_⟩
     have hlt:=hback f.at_ o ho e (by simpa using he) hb
     have hfs:=(je.1 ho).1
     rw[hiff]
     refine⟨by omega,fun hm=>?_⟩
     simp only[kv,fu] at hm
     rcases hm with hm | hm
     ·omega
     ·have:= (jb.1 (by simpa using hsort)).1 _ hm
      omega
    rw[hnone] at hr
    simp at hr
  ·obtain⟨hun,oi,hoi,hall⟩:=mem_ready.1 hi
   have him:=(hl i).1 hun
   obtain⟨f,hfl,hfi⟩:=fq.1 him
   obtain⟨l1,l2,rfl⟩:=List.append_of_mem hfl
   subst hfi
   have hsort':∀g∈l1,g.at_<f.at_:=by
    intro g hg
    rw[kg,lq] at hsort
    exact hsort.2.2 g.at_ (fq.2 ⟨g,hg,rfl⟩) f.at_ (by simp)
   have hnodup:∀g∈l1++l2,g.at_≠f.at_:=by
    intro g hg e
    rw[kg,kv,lq] at hsort
    rcases dw.1 hg with h1 | h1
    ·have:= hsort' g h1;omega
    ·have:= (jb.1 hsort.2.1).1 g.at_ (fq.2 ⟨g,h1,rfl⟩)
     omega
   have hfront:=h.front (l1:=l1) (l2:=l2) (f:=f) (fun g hg=>by
    rcases hap g (by simp[hg]) f (by simp) (hsort' g hg) with ha | ha
    ·exfalso
     have hlg:listed.getD g.at_ false=true:=by
      cases ha with
      | one _ _ o e ho he hb hj =>
       rw[hoi] at ho;cases ho
       rw[←hj]
       exact hall e (by simpa using he) hb
      | more _ _ o e ho he hb hj =>
       rw[hoi] at ho;cases ho
       exact hdown _ _ (hall e (by simpa using he) hb) hj
     have:= (hiff g.at_).1 hlg
     exact this.2 (fq.2 ⟨g,by simp[hg],rfl⟩)
    ·exact ha)
   obtain⟨o,s1,ho,hs,hrest⟩:=hfront
   have hother:∀g∈l1++l2,g.n1≤f.n0∨f.n1≤g.n0:=by
    have ho:=hrng.ord
    rw[lq] at ho
    obtain⟨_,h2,h3⟩:=ho
    intro g hg
    rcases dw.1 hg with h1 | h1
    ·exact h3 g h1 f (by simp)
    ·exact((jb.1 h2).1 g h1).symm
   have hrf:=hrng.in_ f (by simp)
   have hrng':Rng (l1++l2) lo up:=by
    refine⟨hrng.le,fun g hg=>hrng.in_ g (by simp at hg ⊢;rcases hg with h | h<;>simp[h]),?_⟩
    have ho:=hrng.ord
    rw[lq] at ho ⊢
    exact⟨ho.1,(jb.1 ho.2.1).2,fun x hx y hy=>ho.2.2 x hx y (jg _ hy)⟩
   refine hs.sound hHd ho hR (hfr f (by simp)) (fun N' F' φ' a' w' hR' hG' hN'=>?_)
   have hfs:=(je.1 ho).1
   refine ih (l1++l2) s1 s' _ hrest (by simp at hf ⊢;omega) (by simpa using hsz) (fun j=>?_) ?_ ?_ ?_ hrng' hR' ?_ (fun N'' F'' φ'' a'' w'' hR'' hG'' hN''=>hQ _ _ _ _ _ hR'' (Goes.trans reg hG' hG'') (fun i hi=>?_))
   ·by_cases hj:j=f.at_
    ·subst hj
     have e:(listed.setIfInBounds f.at_ true).getD f.at_ true=true:=by
      simp only[dz,j6,if_true]
      split<;>rfl
     rw[e]
     simp only[Bool.true_eq_false,false_iff]
     intro hm
     obtain⟨g,hg,he⟩:=fq.1 hm
     exact hnodup g hg he
    ·rw[getD_set_ne true (Ne.symm hj),hl j]
     simp only[kg,kv,dw,fu]
     constructor
     ·rintro(h | h | h)
      ·exact .inl h
      ·exact absurd h hj
      ·exact .inr h
     ·rintro(h | h)
      ·exact .inl h
      ·exact .inr (.inr h)
   ·rw[kg,kv,lq] at hsort
    rw[kg,lq]
    exact⟨hsort.1,(jb.1 hsort.2.1).2,fun x hx y hy=>hsort.2.2 x hx y (jg _ hy)⟩
   ·intro g hg f' hf' hlt
    exact hap g (dw.2 ((dw.1 hg).imp id (jg _))) f' (dw.2 ((dw.1 hf').imp id (jg _))) hlt
   ·intro j k hj hjk
    by_cases hjf:j=f.at_
    ·subst hjf
     have hlk:listed.getD k false=true:=by
      cases hjk with
      | one _ _ o' e ho' he hb hj' =>
       rw[hoi] at ho';cases ho'
       rw[←hj']
       exact hall e (by simpa using he) hb
      | more _ _ o' e ho' he hb hj' =>
       rw[hoi] at ho';cases ho'
       exact hdown _ _ (hall e (by simpa using he) hb) hj'
     exact getD_set_true hlk
    ·rw[getD_set_ne false (Ne.symm hjf)] at hj
     exact getD_set_true (hdown j k hj hjk)
   ·intro g hg i hi1 hi2 hi3
    rcases hN' i hi3 with h | h
    ·exact hfr g (by simp at hg ⊢;rcases hg with h | h<;>simp[h]) i hi1 hi2 h
    ·rcases hother g hg with h4 | h4<;>omega
   ·rcases hN'' i hi with h | h
    ·rcases hN' i h with h | h
     ·exact .inl h
     ·exact .inr (by omega)
    ·exact .inr h
theorem qEm{r:Option Nat}{m:Nat}(hm:P.follows .mixedOrders=true)(hHd:bT P hd)(hnt:nt≤1000000){id:Nat}{ops:Array Oper}{draw:Bool}{Q:St reg.T→Prop}{Qx:Exit→Act→World→Prop}{st:St reg.T}
  (h:(lC P hd nt ops draw st).K Q) {N F:Nat→Prop} {φ:Phi} {a:Act} {w:World} (hR:RF dl N F φ nt ⟨st.env.get,st.hp.get⟩ a w) (hfr:∀st',Q st'→bX N st.hp.nx st'.hp.nx)
  (hQ:∀st' N' F' φ' a' w',Q st'→RF dl N' F' φ' nt ⟨st'.env.get,st'.hp.get⟩ a' w'→GO N F φ st.hp w N' F' φ' st'.hp w'→Qx .normal a' w'):(Code.region id ops draw).wpIn (Fr r) m P Qx a w:=by
 cases draw with
 | false =>
  refine wpIn_region ?_
  have:= qEl (r:=r) (m:=m) (n:=0) hHd hnt h (fun j=>by simp) hR hfr hQ
  rwa [←List.range_eq_range',kz] at this
 | true =>
  simp only[lC] at h
  rw[Out.aU] at h
  obtain⟨l,st',hch,hq,hat,hgr,hrng⟩:=wO hnt h (fun j=>by simp)
  rw[jy] at hq
  obtain⟨hok,hq⟩:=Out.bG.1 hq
  have hq:Q st':=hq
  have hok:wE ops l.reverse=true:=hok
  have hat':l.map (·.at_)=List.range ops.size:=by rw[hat,kz,List.range_eq_range']
  unfold wE at hok
  simp only[bu] at hok
  obtain⟨hb,hok⟩:=hok
  refine wpIn_region_any hm ?_
  have hbk:=qI3 (ops:=ops) ops.toList 0 (fun j=>by simp) hb
  have hf0:=hfr st' hq
  refine Ch.any hHd (fun i o ho=>hbk i o (di _) ho) ops.size l _ _ _ hch ?_ (by simp) (fun i=>?_) ?_ (fun g hg f hf hlt=>?_) (fun i j hi _=>?_) hrng hR.drew (fun f hf i hi1 hi2=>?_) (fun N' F' φ' a' w' hR' hG' hN'=>hQ _ _ _ _ _ _ hq hR' ⟨Goes.drew hG',hgr,hN'⟩)
  ·have:= congrArg List.length hat'
   simp at this
   omega
  ·rw[hat']
   simp only[List.mem_range,dz,Array.getElem?_replicate]
   by_cases hi:i<ops.size<;>simp[hi]
  ·rw[hat']
   exact List.pairwise_lt_range
  ·have h1:=ek.1 hok f (by simpa using hf)
   have h2:=ek.1 h1 g (by simpa using hg)
   have hblt:Nat.blt g.at_ f.at_=true:=by simpa using hlt
   simp only[hblt,ou,Bool.false_or,jm] at h2
   rcases h2 with h2 | h2
   ·left
    cases hmk:(masks ops.toList [])[f.at_]? with
    | none=>simp[List.getD,hmk] at h2
    | some m =>
     simp only[List.getD,hmk,mq] at h2
     exact qFF (ops:=ops) ops.toList [] (fun j=>by simp) (fun i m j hi=>by simp at hi) _ m _ hmk h2
   ·right
    intro og of hog hof
    rw[hog,hof] at h2
    simp only[bu,eB.apart,jv] at h2
    obtain⟨ha,⟨hb1,hb2⟩,hb3⟩:=h2
    refine⟨ha,fun i hi=>⟨mP hb1 i hi,mP hb2 i hi⟩,fun i hi=>⟨mP hb3 i hi,fun hi'=>mP hb2 i hi' hi⟩⟩
  ·simp only[dz,Array.getElem?_replicate] at hi
   split at hi<;>simp at hi
  ·have:= hrng.in_ f hf
   exact hf0 i (by omega) (by omega)
theorem qEn(hm:P.follows .mixedOrders=true)(hHd:bT P hd)(hnt:nt≤1000000){id:Nat}{ops:Array Oper}{draw:Bool}{Q:St reg.T→Prop}{Qx:Exit→Act→World→Prop}{st:St reg.T}
  (h:(lC P hd nt ops draw st).K Q) {N F:Nat→Prop} {φ:Phi} {a:Act} {w:World} (hR:RF dl N F φ nt ⟨st.env.get,st.hp.get⟩ a w) (hfr:∀st',Q st'→bX N st.hp.nx st'.hp.nx)
  (hQ:∀st' N' F' φ' a' w',Q st'→RF dl N' F' φ' nt ⟨st'.env.get,st'.hp.get⟩ a' w'→GO N F φ st.hp w N' F' φ' st'.hp w'→Qx .normal a' w'):(Code.region id ops draw).wp P Qx a w :=
 (wpIn_wide (n:=0)).1 (qEm (r:=none) hm hHd hnt h hR hfr hQ)
end
end Go.W
namespace Go.W
open Go Go.RowKit
section
variable {reg:Reg} {P:Program} {hd:Hd reg.T} {nt:Nat} {dl:List Deferred}
theorem qFG(hnt:nt≤1000000){ops:Array Oper}{draw:Bool}{st:St reg.T}{Q:St reg.T→Prop}(h:(lC P hd nt ops draw st).K Q):(lC P hd nt ops draw st).K fun st'=>Q st'∧st.hp.nx≤st'.hp.nx:=by
 cases draw with
 | false=>exact qAQ h
 | true =>
  simp only[lC] at h ⊢
  rw[Out.aU] at h ⊢
  obtain⟨r,h1,h2⟩:=(Out.bP _ _).1 h
  obtain⟨l,st',_,h3,_,h4,_⟩:=wO (ops:=ops) hnt h1 (fun j=>by simp)
  refine(Out.bP _ _).2 ⟨r,h1,?_⟩
  obtain⟨h5,h6⟩:=Out.bG.1 h2
  refine Out.bG.2 ⟨h5,h6,?_⟩
  rw[←h3]
  exact h4.1
theorem qAR{body:St reg.T→Out (aH×St reg.T)}(hb:∀(st:St reg.T) (Q:aH×St reg.T→Prop),(body st).K Q→(body st).K fun r=>Q r∧st.hp.nx≤r.2.hp.nx) :
  ∀(n:Nat) {st:St reg.T} {Q:aH×St reg.T→Prop},(zS body n st).K Q→(zS body n st).K fun r=>Q r∧st.hp.nx≤r.2.hp.nx:=by
 intro n
 induction n with
 | zero=>intro st Q h;exact h.elim
 | succ n ih =>
  intro st Q h
  simp only[zS] at h ⊢
  rw[Out.aU] at h ⊢
  refine Out.bN (hb st _ h) (fun r ⟨h1,h2⟩=>?_)
  obtain⟨e,st'⟩:=r
  cases e with
  | normal=>exact Out.bN (ih h1) (fun r ⟨h3,h4⟩=>⟨h3,dm h2 h4⟩)
  | exit id=>exact⟨h1,h2⟩
  | ret=>exact⟨h1,h2⟩
theorem qGK(hnt:nt≤1000000){fuel:Nat}:∀(c:Code) (st:St reg.T) (Q:aH×St reg.T→Prop),(ex P hd nt fuel c st).K Q→(ex P hd nt fuel c st).K fun r=>Q r∧st.hp.nx≤r.2.hp.nx:=by
 intro c
 induction c with
 | skip=>intro st Q h;exact⟨h,dh _⟩
 | region id ops draw =>
  intro st Q h
  simp only[ex] at h ⊢
  rw[Out.aU] at h ⊢
  exact Out.bN (qFG hnt h) (fun r ⟨h1,h2⟩=>⟨h1,h2⟩)
 | seq x y ihx ihy =>
  intro st Q h
  simp only[ex] at h ⊢
  rw[Out.aU] at h ⊢
  refine Out.bN (ihx st _ h) (fun r ⟨h1,h2⟩=>?_)
  obtain⟨e,st'⟩:=r
  cases e with
  | normal=>exact Out.bN (ihy st' _ h1) (fun r ⟨h3,h4⟩=>⟨h3,dm h2 h4⟩)
  | exit id=>exact⟨h1,h2⟩
  | ret=>exact⟨h1,h2⟩
 | cond o x y ihx ihy =>
  intro st Q h
  simp only[ex] at h ⊢
  split at h
  ·split at h
   ·rename_i v hv
    cases v with
    | true=>simp only[Out.K,branch,St.eQ hv] at h ⊢;exact ihx st _ h
    | false=>simp only[Out.K,branch,St.eQ hv] at h ⊢;exact ihy st _ h
   ·exact h.elim
  ·rename_i v
   cases v with
   | true=>exact ihx st _ h
   | false=>exact ihy st _ h
  ·exact h.elim
 | block id c ih =>
  intro st Q h
  simp only[ex] at h ⊢
  rw[Out.aU] at h ⊢
  refine Out.bN (ih st _ h) (fun r ⟨h1,h2⟩=>?_)
  obtain⟨e,st'⟩:=r
  cases e with
  | normal=>exact⟨h1,h2⟩
  | exit j =>
   simp only[qAG] at h1 ⊢
   cases hb:Nat.beq j id with
   | true=>rw[hb] at h1;exact⟨h1,h2⟩
   | false=>rw[hb] at h1;exact⟨h1,h2⟩
  | ret=>exact⟨h1,h2⟩
 | loop c ih=>intro st Q h;exact qAR ih fuel h
 | exit id=>intro st Q h;exact⟨h,dh _⟩
 | ret=>intro st Q h;exact⟨h,dh _⟩
 | rangeFunc f ps c1 c2 _ _=>intro st Q h;exact h.elim
 | scope c ih=>intro st Q h;exact ih st Q h
 | label l=>intro st Q h;exact⟨h,dh _⟩
 | goto l=>intro st Q h;exact h.elim
 | refuse s=>intro st Q h;exact h.elim
abbrev RS(dl:List Deferred)(N F:Nat→Prop)(φ:Phi)(nt:Nat)(st:St reg.T)(a:Act)(w:World):Prop:=RF dl N F φ nt ⟨st.env.get,st.hp.get⟩ a w
def yO(dl:List Deferred)(Q:aH×St reg.T→Prop)(nt:Nat)(N F:Nat→Prop)(φ:Phi)(h:Hp reg.T)(w:World)(e:aH)(a':Act)(w':World):Prop :=
 ∃st' N' F' φ',Q (e,st')∧RS dl N' F' φ' nt st' a' w'∧GO N F φ h w N' F' φ' st'.hp w'
def uN(dl:List Deferred)(Q:aH×St reg.T→Prop)(nt:Nat)(N F:Nat→Prop)(φ:Phi)(h:Hp reg.T)(w:World):Exit→Act→World→Prop
 | .normal,a',w'=>yO dl Q nt N F φ h w .normal a' w'
 | .exit id,a',w'=>yO dl Q nt N F φ h w (.exit id) a' w'
 | .ret,a',w'=>yO dl Q nt N F φ h w .ret a' w'
 | _,_,_=>False
theorem yO.from{Q:aH×St reg.T→Prop}{N N' F F':Nat→Prop}{φ φ':Phi}{h h':Hp reg.T}{w w':World}{e:aH}{a':Act}{w'':World}(g:GO N F φ h w N' F' φ' h' w')(c:yO dl Q nt N' F' φ' h' w' e a' w''):yO dl Q nt N F φ h w e a' w'':=by
 obtain⟨st',N'',F'',φ'',h1,h2,h3⟩:=c
 exact⟨st',N'',F'',φ'',h1,h2,g.trans h3⟩
theorem uN.from{Q:aH×St reg.T→Prop}{N N' F F':Nat→Prop}{φ φ':Phi}{h h':Hp reg.T}{w w':World}{e:Exit}{a':Act}{w'':World}(g:GO N F φ h w N' F' φ' h' w')(c:uN dl Q nt N' F' φ' h' w' e a' w''):uN dl Q nt N F φ h w e a' w'':=by
 cases e with
 | normal=>exact yO.from g c
 | exit id=>exact yO.from g c
 | ret=>exact yO.from g c
 | goto l=>exact c.elim
 | panic ch=>exact c.elim
 | outgrown=>exact c.elim
theorem vC{N N':Nat→Prop}{x y z:Nat}(hf:bX N x z)(hxy:x≤y)(hN:∀i,N' i→N i∨(x≤i∧i<y)):bX N' y z:=by
 intro i hi1 hi2 hi3
 rcases hN i hi3 with h | h
 ·exact hf i (dm hxy hi1) hi2 h
 ·omega
theorem qAS{N:Nat→Prop}{x y z:Nat}(hf:bX N x z)(hyz:y≤z):bX N x y:=fun i h1 h2=>hf i h1 (gq h2 hyz)
theorem iI{P:Program}{b:Frame}{a:Act}{k:List Item}{cs:List Frame}{w:World}{c:Code}:step P (lone (b.atR a (.code (.scope c)::k)) cs w)=.next (lone (b.atR a (.code c :: .inScope c::k)) cs w) :=
 step_lone_go (by simp[stepG,stepG.exec,Frame.atR])
theorem qBX{P:Program}{b:Frame}{a:Act}{k:List Item}{cs:List Frame}{w:World}{c:Code}:step P (lone (b.atR a (.inScope c::k)) cs w)=.next (lone (b.atR a k) cs w) :=
 step_lone_go (by simp[stepG,stepG.exec,Frame.atR])
theorem uH{F:Fence}{n:Nat}{P:Program}{Q:Exit→Act→World→Prop}{a:Act}{w:World}{c:Code}(h:c.wpIn F n P (Exit.noGoto Q) a w):(Code.scope c).wpIn F n P Q a w:=by
 intro b k cs hro hb hr
 have h0:(lone (b.atR a (.code (.scope c)::k)) cs w).fenced P F:=fenced_calm hb hr rfl
 obtain⟨e,a₁,w₁,hq,harr⟩:=h b (.inScope c::k) cs hro hb hr
 cases e with
 | normal=>exact⟨.normal,a₁,w₁,hq,.head h0 iI (StepsIn.trans harr (.one (fenced_calm hb hr rfl) qBX))⟩
 | exit id =>
  have hx:exitTo id (.inScope c::k)=exitTo id k:=by simp[exitTo]
  exact⟨.exit id,a₁,w₁,hq,fun k' hk=>.head h0 iI (harr.1 k' (by rw[hx];exact hk)),
   fun hr' hk=>let ⟨k₁,h1,h2⟩:=harr.2 hr' (by rw[hx];exact hk);⟨k₁,h1,.head h0 iI h2⟩⟩
 | goto l=>exact hq.elim
 | ret=>exact⟨_,a₁,w₁,hq,.of_steps (.one h0 iI) harr⟩
 | panic ch=>exact⟨_,a₁,w₁,hq,.of_steps (.one h0 iI) harr⟩
 | outgrown=>exact⟨_,a₁,w₁,hq,.of_steps (.one h0 iI) harr⟩
def qFH(P:Program)(nt:Nat)(c:Code)(run:St reg.T→Out (aH×St reg.T)):Prop :=
 ∀(st:St reg.T) (Q:aH×St reg.T→Prop),(run st).K Q→∀{dl:List Deferred} {N F:Nat→Prop} {φ:Phi} {a:Act} {w:World},RS dl N F φ nt st a w→(∀r,Q r→bX N st.hp.nx r.2.hp.nx)→∀(r:Option Nat) (m:Nat),c.wpIn (Fr r) m P (uN dl Q nt N F φ st.hp w) a w
theorem qFI{c:Code}{body:St reg.T→Out (aH×St reg.T)}(hb:∀(st:St reg.T) (Q:aH×St reg.T→Prop),(body st).K Q→(body st).K fun r=>Q r∧st.hp.nx≤r.2.hp.nx)
  (hc:qFH P nt c body) (n:Nat):qFH P nt (.loop c) (zS body n):=by
 intro st Q h dl N F φ a w hR hfr ro m
 obtain⟨r,hr,hq⟩:=(Out.bP _ _).1 h
 have hf0:=hfr r hq
 refine wpIn_loop_ghost (fun n a' w'=>∃st' N' F' φ',(zS body n st').K (·= r)∧RS dl N' F' φ' nt st' a' w'∧GO N F φ st.hp w N' F' φ' st'.hp w') n ⟨st,N,F,φ,hr,hR,GO.refl hR.heap⟩ ?_
 rintro n a' w' ⟨st',N',F',φ',h1,h2,h3⟩
 cases n with
 | zero=>exact h1.elim
 | succ n =>
  simp only[zS] at h1
  rw[Out.aU] at h1
  obtain⟨⟨e,st2⟩,h4,h5⟩:=(Out.bP _ _).1 h1
  obtain⟨_,hx,hle⟩:=(Out.bP _ _).1 (hb _ _ h4)
  have hle2:st2.hp.nx≤r.2.hp.nx:=by
   cases e with
   | normal=>obtain⟨_,_,hx',hy'⟩:=(Out.bP _ _).1 (qAR hb n h5);exact hx'▸hy'
   | exit id=>have: (aH.exit id,st2)=r:=h5;rw[←this];exact dh _
   | ret=>have: (aH.ret,st2)=r:=h5;rw[←this];exact dh _
  have hf1:=vC hf0 h3.grow.1 h3.names
  refine wpIn_mono (hc st' _ h4 h2 (by rintro r' rfl;exact qAS hf1 hle2) ro m) (fun e' a'' w'' he=>?_)
  cases e' with
  | normal =>
   obtain⟨st3,N3,F3,φ3,e3,h6,h7⟩:=he
   cases e3
   exact⟨n,l8 _,st2,N3,F3,φ3,h5,h6,h3.trans h7⟩
  | exit id =>
   obtain⟨st3,N3,F3,φ3,e3,h6,h7⟩:=he
   cases e3
   have: (aH.exit id,st2)=r:=h5
   exact⟨st2,N3,F3,φ3,this▸hq,h6,h3.trans h7⟩
  | ret =>
   obtain⟨st3,N3,F3,φ3,e3,h6,h7⟩:=he
   cases e3
   have: (aH.ret,st2)=r:=h5
   exact⟨st2,N3,F3,φ3,this▸hq,h6,h3.trans h7⟩
  | goto l=>exact he.elim
  | panic ch=>exact he.elim
  | outgrown=>exact he.elim
theorem qQ5(hm:P.follows .mixedOrders=true)(hHd:bT P hd)(hnt:nt≤1000000){fuel:Nat}:∀(c:Code),qFH P nt c (ex P hd nt fuel c):=by
 intro c
 induction c with
 | skip=>intro st Q h dl N F φ a w hR hfr ro m;exact wpIn_skip ⟨st,N,F,φ,h,hR,GO.refl hR.heap⟩
 | region id ops draw =>
  intro st Q h dl N F φ a w hR hfr ro m
  simp only[ex] at h
  rw[Out.aU] at h
  exact qEm hm hHd hnt h hR (fun st' hq=>hfr _ hq) (fun st' N' F' φ' a' w' hq hR' hG'=>⟨st',N',F',φ',hq,hR',hG'⟩)
 | seq x y ihx ihy =>
  intro st Q h dl N F φ a w hR hfr ro m
  obtain⟨r,hr,hq⟩:=(Out.bP _ _).1 h
  have hf0:=hfr r hq
  simp only[ex] at hr
  rw[Out.aU] at hr
  obtain⟨⟨e,st2⟩,h4,h5⟩:=(Out.bP _ _).1 hr
  have hle2:st2.hp.nx≤r.2.hp.nx:=by
   cases e with
   | normal=>obtain⟨_,_,hx',hy'⟩:=(Out.bP _ _).1 (qGK hnt y st2 _ h5);exact hx'▸hy'
   | exit id=>have: (aH.exit id,st2)=r:=h5;rw[←this];exact dh _
   | ret=>have: (aH.ret,st2)=r:=h5;rw[←this];exact dh _
  refine wpIn_seq (wpIn_mono (ihx st _ h4 hR (by rintro r' rfl;exact qAS hf0 hle2) ro m) fun e' a' w' he=>?_)
  cases e' with
  | normal =>
   obtain⟨st3,N3,F3,φ3,e3,h6,h7⟩:=he
   cases e3
   have hf1:=vC hf0 h7.grow.1 h7.names
   refine wpIn_mono (ihy st2 _ h5 h6 (by rintro r' rfl;exact hf1) ro m) (fun e'' a'' w'' he=>?_)
   refine uN.from h7 ?_
   cases e'' with
   | normal=>obtain⟨st4,N4,F4,φ4,e4,h8,h9⟩:=he;exact⟨st4,N4,F4,φ4,e4▸hq,h8,h9⟩
   | exit id=>obtain⟨st4,N4,F4,φ4,e4,h8,h9⟩:=he;exact⟨st4,N4,F4,φ4,e4▸hq,h8,h9⟩
   | ret=>obtain⟨st4,N4,F4,φ4,e4,h8,h9⟩:=he;exact⟨st4,N4,F4,φ4,e4▸hq,h8,h9⟩
   | goto l=>exact he.elim
   | panic ch=>exact he.elim
   | outgrown=>exact he.elim
  | exit id =>
   obtain⟨st3,N3,F3,φ3,e3,h6,h7⟩:=he
   cases e3
   have: (aH.exit id,st2)=r:=h5
   exact⟨st2,N3,F3,φ3,this▸hq,h6,h7⟩
  | ret =>
   obtain⟨st3,N3,F3,φ3,e3,h6,h7⟩:=he
   cases e3
   have: (aH.ret,st2)=r:=h5
   exact⟨st2,N3,F3,φ3,this▸hq,h6,h7⟩
  | goto l=>exact he.elim
  | panic ch=>exact he.elim
  | outgrown=>exact he.elim
 | cond o x y ihx ihy =>
  intro st Q h dl N F φ a w hR hfr ro m
  simp only[ex] at h
  split at h
  ·rename_i t
   split at h
   ·rename_i v hv
    have he:a.eval (.tmp t)=.bool v:=(kR hR (x:=.tmp t) hv).fB
    cases v with
    | true=>simp only[Out.K,branch,St.eQ hv] at h;exact wpIn_cond_true he (ihx st Q h hR hfr ro m)
    | false=>simp only[Out.K,branch,St.eQ hv] at h;exact wpIn_cond_false he (ihy st Q h hR hfr ro m)
   ·exact h.elim
  ·rename_i v
   cases v with
   | true=>exact wpIn_cond_true (by rfl) (ihx st Q h hR hfr ro m)
   | false=>exact wpIn_cond_false (by rfl) (ihy st Q h hR hfr ro m)
  ·exact h.elim
 | block id c ih =>
  intro st Q h dl N F φ a w hR hfr ro m
  obtain⟨r,hr,hq⟩:=(Out.bP _ _).1 h
  have hf0:=hfr r hq
  simp only[ex] at hr
  rw[Out.aU] at hr
  obtain⟨⟨e,st2⟩,h4,h5⟩:=(Out.bP _ _).1 hr
  have h2:r.2=st2:=by
   cases e with
   | normal=>have: (aH.normal,st2)=r:=h5;rw[←this]
   | exit j =>
    simp only[qAG] at h5
    cases hb:Nat.beq j id with
    | true=>rw[hb] at h5;have: (aH.normal,st2)=r:=h5;rw[←this]
    | false=>rw[hb] at h5;have: (aH.exit j,st2)=r:=h5;rw[←this]
   | ret=>have: (aH.ret,st2)=r:=h5;rw[←this]
  refine wpIn_block (wpIn_mono (ih st _ h4 hR (by rintro r' rfl;rw[←h2];exact hf0) ro m) fun e' a' w' he=>?_)
  cases e' with
  | normal =>
   obtain⟨st3,N3,F3,φ3,e3,h6,h7⟩:=he
   cases e3
   have: (aH.normal,st2)=r:=h5
   exact⟨st2,N3,F3,φ3,this▸hq,h6,h7⟩
  | exit j =>
   obtain⟨st3,N3,F3,φ3,e3,h6,h7⟩:=he
   cases e3
   simp only[qAG] at h5
   cases hb:Nat.beq j id with
   | true =>
    rw[hb] at h5
    have: j=id:=cz hb
    simp only[Exit.inBlock,this,if_true]
    have: (aH.normal,st2)=r:=h5
    exact⟨st2,N3,F3,φ3,this▸hq,h6,h7⟩
   | false =>
    rw[hb] at h5
    have: j≠id:=fun e=>by subst e;simp[jq] at hb
    simp only[Exit.inBlock,this,if_false]
    have: (aH.exit j,st2)=r:=h5
    exact⟨st2,N3,F3,φ3,this▸hq,h6,h7⟩
  | ret =>
   obtain⟨st3,N3,F3,φ3,e3,h6,h7⟩:=he
   cases e3
   have: (aH.ret,st2)=r:=h5
   exact⟨st2,N3,F3,φ3,this▸hq,h6,h7⟩
  | goto l=>exact he.elim
  | panic ch=>exact he.elim
  | outgrown=>exact he.elim
 | exit id=>intro st Q h dl N F φ a w hR hfr ro m;exact wpIn_exit ⟨st,N,F,φ,h,hR,GO.refl hR.heap⟩
 | ret=>intro st Q h dl N F φ a w hR hfr ro m;exact wpIn_ret ⟨st,N,F,φ,h,hR,GO.refl hR.heap⟩
 | loop c ih=>exact qFI (qGK hnt c) ih fuel
 | rangeFunc f ps c1 c2 _ _=>intro st Q h;exact h.elim
 | scope c ih=>intro st Q h dl N F φ a w hR hfr ro m;exact uH (wpIn_mono (ih st Q h hR hfr ro m) (fun e' a' w' he=>by cases e'<;>first | exact he | exact he.elim))
 | label l=>intro st Q h dl N F φ a w hR hfr ro m;exact wpIn_label ⟨st,N,F,φ,h,hR,GO.refl hR.heap⟩
 | goto l=>intro st Q h;exact h.elim
 | refuse s=>intro st Q h;exact h.elim
theorem qJ8(hm:P.follows .mixedOrders=true)(hHd:bT P hd)(hnt:nt≤1000000){fuel:Nat}(c:Code)(st:St reg.T)(Q:aH×St reg.T→Prop)(h:(ex P hd nt fuel c st).K Q){N F:Nat→Prop}{φ:Phi}{a:Act}{w:World}(hR:RS dl N F φ nt st a w)(hfr:∀r,Q r→bX N st.hp.nx r.2.hp.nx):c.wp P (uN dl Q nt N F φ st.hp w) a w :=
 (wpIn_wide (n:=0)).1 (qQ5 hm hHd hnt c st Q h hR hfr none 0)
def vD(tmps:Array Value):ResultVar→Sem Value
 | .tmp t=>pure (tmps.getD t undef)
 | .cell a t=>do loadVar t (←asAddr (tmps.getD a undef))
theorem qI4{N F:Nat→Prop}{φ:Phi}{st:St reg.T}{a:Act}{w:World}(hR:RS dl N F φ nt st a w){r:ResultVar}{v:V reg.T}(h:qDS P st r=some v) :
  ∃cv,(vD a.tmps r).run P w=.ok cv w∧aA reg F w φ v cv:=by
 cases r with
 | tmp t=>exact⟨_,rfl,(hR.env t v h).2⟩
 | cell t ty =>
  simp only[qDS] at h
  split at h
  ·rename_i i r o ht
   split at h
   ·rename_i ob hi
    split at h
    ·rename_i hc
     simp only[bu] at hc
     have hr:r<ob.len reg:=bz hc.2
     have hrel:=(hR.env t _ ht).2
     obtain⟨b,s,k,z,hp,he⟩:=hrel.sO
     have e:(vD a.tmps (.cell t ty))=Instr.loadAt ty (.pointer (some ⟨b,s+r*k+o,none⟩)):=by
      simp only[vD]
      rw[he]
      rfl
     rw[e]
     obtain⟨_,rfl,_,_,C,tt,fz,h1,_,h2,_⟩:=lG hR.heap hi hp hc.1
     have hlen:(((ob.row reg r).drop o).take (P.cellsOf ty)).length≤ob.k reg-o:=by have:= h2.at_.wid r hr;simp;omega
     obtain⟨cv,h3,h4⟩:=yK (P:=P) (F:=F) (φ:=φ) h h1 (o:=s+r*ob.k reg+o) (fun j hj=>by
       have hjk:o+j<ob.k reg:=by omega
       have:= qGG hr hjk h2.size
       omega) (fun j hj=>by
       have hjk:o+j<ob.k reg:=by omega
       have:= h2.at_.rel r (o+j) hr hjk
       rw[show s+(r*ob.k reg+(o+j))=s+r*ob.k reg+o+j by omega] at this
       have e:(((ob.row reg r).drop o).take (P.cellsOf ty)).getD j .any=(ob.row reg r).getD (o+j) .any:=by
        simp only[il,ko] at hj
        simp only[List.getD,gy,ic]
        rw[if_pos (by omega)]
       rw[e];exact this)
     exact⟨cv,h4,h3⟩
    ·simp at h
   ·simp at h
  ·simp at h
theorem qFJ{N F:Nat→Prop}{φ:Phi}{st:St reg.T}{a:Act}{w:World}(hR:RS dl N F φ nt st a w):∀(rs:List ResultVar) (vs:List (V reg.T)),bS (rs.map (qDS P st))=some vs →
  ∃cvs:List Value,(rs.mapM (vD a.tmps)).run P w=.ok cvs w∧vs.length=cvs.length∧∀j,j<vs.length→aA reg F w φ (vs.getD j .any) (cvs.getD j undef):=by
 intro rs
 induction rs with
 | nil=>intro vs h;simp[bS] at h;subst h;exact⟨[],rfl,rfl,fun j hj=>by simp at hj⟩
 | cons r rs ih =>
  intro vs h
  simp only[kv] at h
  cases hr:qDS P st r with
  | none=>rw[hr] at h;simp[bS] at h
  | some v =>
   rw[hr] at h
   simp only[bS] at h
   cases hl:bS (rs.map (qDS P st)) with
   | none=>rw[hl] at h;simp at h
   | some us =>
    rw[hl] at h
    simp only[cu] at h
    subst h
    obtain⟨cv,h1,h2⟩:=qI4 hR hr
    obtain⟨cvs,h3,h4,h5⟩:=ih us hl
    refine⟨cv::cvs,?_,by simp[h4],fun j hj=>?_⟩
    ·rw[qy,Sem.run_bind,h1]
     simp only[Result.andThen_ok,Sem.run_bind,h3]
     rfl
    ·cases j with
     | zero=>simpa using h2
     | succ j=>simpa using h5 j (by simpa using hj)
theorem jE{N F:Nat→Prop}{φ:Phi}{st:St reg.T}{a:Act}{w:World}(hR:RS dl N F φ nt st a w){fn:Func}{v:V reg.T}(h:qBU P fn st=some v) :
  ∃cv,(results fn a.tmps).run P w=.ok cv w∧aA reg F w φ v cv:=by
 have e:results fn a.tmps=(do let vs ←fn.results.mapM (vD a.tmps);pure (if h:vs.size=1 then vs[0] else .tuple vs)):=by
  unfold results
  congr 1
 have all:∀us,bS (fn.results.toList.map (qDS P st))=some us→∃cvs:Array Value,(fn.results.mapM (vD a.tmps)).run P w=.ok cvs w∧us.length=cvs.size ∧
   ∀j,j<us.length→aA reg F w φ (us.getD j .any) (cvs.getD j undef):=by
  intro us hus
  obtain⟨cvs,h1,h2,h3⟩:=qFJ hR fn.results.toList us hus
  refine⟨cvs.toArray,?_,by simpa using h2,fun j hj=>by simpa [dz,List.getD] using h3 j hj⟩
  rw[←lh (xs:=fn.results),List.mapM_toArray]
  show((List.toArray <$> fn.results.toList.mapM (vD a.tmps):Sem (Array Value))).run P w=_
  rw[map_eq_pure_bind,Sem.run_bind,h1]
  rfl
 unfold qBU at h
 split at h
 ·rename_i r hr
  obtain⟨cvs,h1,h2,h3⟩:=all [v] (by rw[hr];simp[bS,h])
  refine⟨cvs.getD 0 undef,?_,by simpa using h3 0 (by simp)⟩
  rw[e,Sem.run_bind,h1]
  have hs:cvs.size=1:=by simpa using h2.symm
  simp[hs,Array.getD]
 ·rename_i hne
  split at h
  ·rename_i us hus
   simp only[cu] at h
   subst h
   obtain⟨cvs,h1,h2,h3⟩:=all us hus
   refine⟨.tuple cvs,?_,.tup us cvs h2 h3⟩
   rw[e,Sem.run_bind,h1]
   have hs:¬cvs.size=1:=by
    intro hs
    have hl:=congrArg List.length (pR hus)
    simp only[iq] at hl
    obtain⟨r,hr⟩:=List.length_eq_one_iff.1 (show fn.results.toList.length=1 by omega)
    exact hne r hr
   simp[hs]
  ·simp at h
theorem zX:∀(l:List (V reg.T)) (n:Nat) (t:Tr (V reg.T)),n+l.length≤1000000→∀j,(dP l n t).get j=if n≤j∧j<n+l.length then l[j-n]? else t.get j
 | [],n,t,_,j=>by simp[dP];omega
 | v::l,n,t,h,j=>by
  simp only[j5] at h
  rw[dP,zX l (n+1) _ (by omega) j,Tr.dG (by unfold Tr.ok;simp;omega)]
  by_cases h1:n=j
  ·subst h1;simp;omega
  ·by_cases h2:n+1≤j∧j<n+1+l.length
   ·have e:j-n=(j-(n+1))+1:=by omega
    rw[if_pos h2,if_pos (by simp only[j5];omega),e];simp
   ·rw[if_neg h2,if_neg (Ne.symm h1),if_neg (by simp only[j5];omega)]
theorem nT{N F:Nat→Prop}{φ:Phi}{h:Hp reg.T}{w:World}{args:List (V reg.T)}{cargs:Array Value}(hH:HR N F φ h w)(hl:eF F w φ args cargs)(hle:args.length≤nt)(hnt:nt≤1000000) :
  RS [] N F φ nt ⟨dP args 0 .e,h⟩ { tmps:=cargs++Array.replicate (nt-cargs.size) undef,defers:=[] } w:=by
 have hsz:=hl.1
 refine⟨fun t x hx=>?_,by simp;omega,hH,rfl⟩
 simp only[zX args 0 .e (by omega),Tr.qG7] at hx
 split at hx
 ·rename_i hlt
  have hlt:t<args.length:=by omega
  refine⟨by omega,?_⟩
  have h1:=hl.2 t hlt
  have e1:args.getD t .any=x:=by
   simp only[q9] at hx
   simp[List.getD,hx]
  rw[e1] at h1
  have e2:(cargs++Array.replicate (nt-cargs.size) undef).getD t undef=cargs.getD t undef:=by
   have: t<cargs.size:=by omega
   simp[dz,Array.getElem?_append,this]
  rw[e2]
  exact h1
 ·cases hx
theorem zY(hm:P.follows .mixedOrders=true)(hHd:bT P hd)(hno:∀(f:FuncId) fn,P.funcs[f]? = some fn→fn.body.isNone=false→(fn.name == "runtime.NumGoroutine")=false)(fuel:Nat):bT P (qGC P hd fuel):=by
 intro f args h Q hq
 unfold qGC at hq
 split at hq
 ·exact hq.elim
 rename_i fn hfn
 split at hq
 ·exact hq.elim
 rename_i c hb
 obtain⟨hc,hq⟩:=Out.bG.1 hq
 simp only[bu] at hc
 have hle:args.length≤fn.ntmps:=by simpa using hc.1
 have hnt:fn.ntmps≤1000000:=bz hc.2
 rw[Out.aU] at hq
 have hbn:fn.body.isNone=false:=by rw[hb];rfl
 refine⟨⟨fn,hfn,hno f fn hfn hbn,hbn⟩,fun N F φ w cargs hfr hH hl=>?_⟩
 have hfin:∀r:aH×St reg.T,(iW P fn r).K Q→∃v,qBU P fn r.2=some v∧Q (v,r.2.hp)∧∀id,r.1≠.exit id:=by
  intro r hr
  obtain⟨e,st⟩:=r
  cases e with
  | normal=>obtain⟨v,h1,h2⟩:=eD hr;exact⟨v,h1,h2,fun id=>by simp⟩
  | ret=>obtain⟨v,h1,h2⟩:=eD hr;exact⟨v,h1,h2,fun id=>by simp⟩
  | exit id=>exact hr.elim
 refine calls_of_wp hfn hb (wp_mono (qJ8 hm hHd hnt c _ _ hq (nT hH hl hle hnt) (fun r hr=>?_)) fun e a' w' he=>?_)
 ·obtain⟨v,_,h2,_⟩:=hfin r hr
  exact hfr _ h2
 ·have fin:∀e',yO [] (fun r=>(iW P fn r).K Q) fn.ntmps N F φ h w e' a' w'→a'.defers=[]∧∃cv,(results fn a'.tmps).run P w' = .ok cv w'∧bY N F φ h w Q (.returned cv) w':=by
   rintro e' ⟨st',N',F',φ',h1,h2,h3⟩
   obtain⟨v,h4,h5,_⟩:=hfin _ h1
   obtain⟨cv,h6,h7⟩:=jE h2 h4
   exact⟨h2.dfs,cv,h6,cv,rfl,v,st'.hp,N',F',φ',h5,h7,h2.heap,h3⟩
  cases e with
  | normal=>exact fin _ he
  | ret=>exact fin _ he
  | exit id =>
   obtain⟨st',N',F',φ',h1,_⟩:=he
   obtain⟨_,_,_,h6⟩:=hfin _ h1
   exact(h6 id rfl).elim
  | goto l=>exact he.elim
  | panic ch=>exact he.elim
  | outgrown=>exact he.elim
def qNZ(P:Program)(C:Con reg.T):Prop:=∀f S,C f=some S→∀args h Q,(S args h).K Q→There P f∧∀N F φ w cargs,(∀r,Q r→bX N h.nx r.2.nx)→HR N F φ h w→eF F w φ args cargs→Calls P f cargs w (bY N F φ h w Q)
end
end Go.W
namespace Go.W
open Go Go.RowKit
section
variable {reg:Reg} (P:Program)
structure It(T:Nat→Type) where
 env:Tr (V T)
 hp:Hp T
 ys:List Nat
 out:List (List (V T))
def qOa(l:List Nat):Option Nat→List Nat
 | none=>l
 | some d=>l.filter fun t=>!Nat.beq t d
def V.bare{T:Nat→Type}:V T→Bool
 | .d (.bool _)=>true
 | .d (.int _ _)=>true
 | .d (.str _)=>true
 | .d .nilp=>true
 | .d .nilm=>true
 | .d .nilf=>true
 | .d .nili=>true
 | .d .nils=>true
 | .agg vs=>goL vs
 | _=>false
where goL {T:Nat→Type}:List (V T)→Bool
 | []=>true
 | v::vs=>V.bare v&&goL vs
def qMw(ys:List Nat):Op→Option (Array Operand)
 | .call ⟨.value (.tmp t),args,_⟩=>(match fI ys t with | true=>some args | false=>none)
 | _=>none
def qMx(ys:List Nat)(dst:Option Nat):Op→Option Nat
 | .move (.tmp t)=>(match fI ys t with | true=>dst | false=>none)
 | _=>none
def qDt(hd:Hd reg.T)(nt:Nat):List Oper→It reg.T→Out (It reg.T)
 | [],s=>.ret s
 | o::rest,s =>
  match gL nt o.dst&&o.guard.isNone with
  | false=>.bad
  | true =>
   match qMx s.ys o.dst o.op with
   | some d=>qDt hd nt rest ⟨s.env.set d (some .any),s.hp,d::s.ys,s.out⟩
   | none =>
    match qMw s.ys o.op with
    | some args =>
     (match bS (args.toList.map (valOf s.env.get)) with
     | some vs=>(match V.bare.goL vs with
      | true=>qDt hd nt rest ⟨(St.put ⟨s.env,s.hp⟩ o.dst (.d (.bool true))).env,s.hp,qOa s.ys o.dst,s.out++[vs]⟩
      | false=>.bad)
     | none=>.bad)
    | none =>
     (dO P hd o.op (valOf s.env.get) s.hp).bind fun r=>Out.ask (Nat.ble s.hp.nx r.2.nx) (qDt hd nt rest ⟨(St.put ⟨s.env,r.2⟩ o.dst r.1).env,r.2,qOa s.ys o.dst,s.out⟩)
def qQ6{T:Nat→Type}(k:It T→Out (aH×It T))(r:aH×It T):Out (aH×It T) :=
 match r.1 with
 | .normal=>k r.2
 | e=>.ret (e,r.2)
def qOH{T:Nat→Type}(id:Nat)(r:aH×It T):Out (aH×It T) :=
 match r.1 with
 | .exit j=>(match Nat.beq j id with | true=>.ret (.normal,r.2) | false=>.ret (.exit j,r.2))
 | e=>.ret (e,r.2)
def qOb{T:Nat→Type}(body:It T→Out (aH×It T)):Nat→It T→Out (aH×It T)
 | 0,_=>.bad
 | n+1,s=>(body s).bind fun r=>(match r.1 with | .normal=>qOb body n r.2 | e=>.ret (e,r.2))
def exY(hd:Hd reg.T)(nt fuel:Nat):Code→It reg.T→Out (aH×It reg.T)
 | .skip,s=>.ret (.normal,s)
 | .region _ ops false,s=>(qDt P hd nt ops.toList s).bind fun s=>.ret (.normal,s)
 | .seq a b,s=>(exY hd nt fuel a s).bind (qQ6 (exY hd nt fuel b))
 | .cond (.tmp t) a b,s=>(match s.env.get t with
   | some (.d (.bool v))=>(match v with | true=>exY hd nt fuel a s | false=>exY hd nt fuel b s)
   | _=>.bad)
 | .block id c,s=>(exY hd nt fuel c s).bind (qOH id)
 | .loop c,s=>qOb (exY hd nt fuel c) fuel s
 | .exit id,s=>.ret (.exit id,s)
 | .ret,s=>.ret (.ret,s)
 | _,_=>.bad
end
section
variable {reg:Reg}
theorem iX.later{F:Nat→Prop}{φ:Phi}{N:Nat→Prop}{H:Nat→Option (O reg.T)}{w w':World}(h:iX reg F φ N H w)(hs:w.heap.size≤w'.heap.size)(hb:∀b,F b∨bR reg φ H b→w'.heap[b]? = w.heap[b]?):iX reg F φ N H w':=by
 have hF:∀b,F b→F b∧w'.heap[b]? = w.heap[b]?:=fun b h1=>⟨h1,hb b (.inl h1)⟩
 exact⟨fun i o ho=>(h.obj i o ho).mono reg hF (fun _ _ hp=>hp) (fun hp=>hp) (fun b s k hp=>hb b (.inr ⟨i,o,s,k,ho,hp⟩)),
  fun i o b s k ho hp=>⟨(h.own i o b s k ho hp).1,gq (h.own i o b s k ho hp).2 hs⟩,h.inj,h.dom,h.lt,h.ok,fun b h1=>gq (h.frz b h1) hs,h.lay.mono reg hF⟩
end
section
variable {reg:Reg} {P:Program} {hd:Hd reg.T} {nt:Nat}
def qOc(items:List (List (V reg.T)))(z:Nat)(s:It reg.T):Prop:=(∃more,items=s.out++more)∧s.hp.nx≤z
def rD(s s':It reg.T):Prop:=(∃l,s'.out=s.out++l)∧s.hp.nx≤s'.hp.nx
theorem rD.refl(s:It reg.T):rD s s:=⟨⟨[],by simp⟩,dh _⟩
theorem rD.trans{a b c:It reg.T}(h:rD a b)(k:rD b c):rD a c:=by
 obtain⟨⟨l,hl⟩,h2⟩:=h
 obtain⟨⟨m,hm⟩,h3⟩:=k
 exact⟨⟨l++m,by rw[hm,hl,gm]⟩,dm h2 h3⟩
theorem rD.front{items:List (List (V reg.T))}{z:Nat}{s s':It reg.T}(h:rD s s')(hf:qOc items z s'):qOc items z s:=by
 obtain⟨⟨l,hl⟩,h2⟩:=h
 obtain⟨⟨m,hm⟩,h3⟩:=hf
 exact⟨⟨l++m,by rw[hm,hl,gm]⟩,dm h2 h3⟩
end
end Go.W
namespace Go.W
open Go Go.RowKit
section
variable {T:Nat→Type}
def D.alike:D T→D T→Bool
 | .bool a,.bool b=>a==b
 | .int k a,.int k' b=>sameKind k k' && a==b
 | .str a,.str b=>a==b
 | .nilp,.nilp=>true
 | .nilm,.nilm=>true
 | .nilf,.nilf=>true
 | .nili,.nili=>true
 | .nils,.nils=>true
 | _,_=>false
def Cap.alike:Cap→Cap→Bool
 | .exact a,.exact b=>Nat.beq a b
 | .least a,.least b=>Nat.beq a b
 | _,_=>false
def V.alike:V T→V T→Bool
 | .d x,.d y=>x.alike y
 | .ptr i r o,.ptr j s p=>Nat.beq i j&&Nat.beq r s&&Nat.beq o p
 | .sl i off len cap,.sl j off' len' cap'=>Nat.beq i j&&Nat.beq off off' && Nat.beq len len' && cap.alike cap'
 | .mp i,.mp j=>Nat.beq i j
 | .it i,.it j=>Nat.beq i j
 | .fn f cs fs,.fn g ds gs=>Nat.beq f g&&goL cs ds&&goL fs gs
 | .agg vs,.agg us=>goL vs us
 | .tup vs,.tup us=>goL vs us
 | .undef,.undef=>true
 | _,_=>false
where goL:List (V T)→List (V T)→Bool
 | [],[]=>true
 | v::vs,u::us=>V.alike v u&&goL vs us
 | _,_=>false
def qCv:List (List (V T))→List (List (V T))→Bool
 | [],[]=>true
 | r::rs,q::qs=>V.alike.goL r q&&qCv rs qs
 | _,_=>false
def qCw:List ((V T×V T)×Nat)→List ((V T×V T)×Nat)→Bool
 | [],[]=>true
 | a::as,b::bs=>V.alike a.1.1 b.1.1&&V.alike a.1.2 b.1.2&&Nat.beq a.2 b.2&&qCw as bs
 | _,_=>false
def O.alike:O T→O T→Bool
 | .rows k xs,.rows k' ys=>Nat.beq k k' && qCv xs ys
 | .map c es,.map c' es'=>Nat.beq c c' && qCw es es'
 | _,_=>false
def qOd{α:Type}(f:α→α→Bool):Option α→Option α→Option α
 | some a,some b=>(match f a b with | true=>some a | false=>none)
 | _,_=>none
def Tr.meet{α:Type}(f:α→α→Bool):Tr α→Tr α→Tr α
 | .n l v r,.n l' v' r'=>.n (Tr.meet f l l') (qOd f v v') (Tr.meet f r r')
 | _,_=>.e
def qOI:aH→aH→Bool
 | .normal,.normal=>true
 | .ret,.ret=>true
 | .exit a,.exit b=>Nat.beq a b
 | _,_=>false
def qJ9(b h1 h2:Hp T):List Nat:=h1.wr++(h2.wr++List.range' b.nx (Nat.max h1.nx h2.nx-b.nx))
def qMy(h1 h2:Hp T)(t:Tr (O T))(i:Nat):Tr (O T):=t.set i (qOd O.alike (h1.get i) (h2.get i))
def qQ7(b h1 h2:Hp T):Hp T:=⟨(qJ9 b h1 h2).foldl (qMy h1 h2) b.h,Nat.max h1.nx h2.nx,h1.wr++h2.wr⟩
def qQ8(b:Hp T)(r1 r2:aH×St T):Out (aH×St T) :=
 Out.ask (qOI r1.1 r2.1&&(qJ9 b r1.2.hp r2.2.hp).all Tr.ok) (.ret (r1.1,⟨Tr.meet V.alike r1.2.env r2.2.env,qQ7 b r1.2.hp r2.2.hp⟩))
def qGL{β:Type}(b:Hp T)(f:β→Out (aH×St T)):List β→Out (aH×St T)
 | []=>.bad
 | [e]=>f e
 | e::es=>(f e).bind fun r1=>(qGL b f es).bind fun r2=>qQ8 b r1 r2
structure Sub(r r':aH×St T):Prop where
 ex:r.1=r'.1
 env:∀t v,r.2.env.get t=some v→r'.2.env.get t=some v
 hp:∀i o,r.2.hp.get i=some o→r'.2.hp.get i=some o
 nx:r'.2.hp.nx≤r.2.hp.nx
theorem Sub.refl(r:aH×St T):Sub r r:=⟨rfl,fun _ _ h=>h,fun _ _ h=>h,dh _⟩
theorem Sub.trans{a b c:aH×St T}(h:Sub a b)(k:Sub b c):Sub a c:=⟨h.ex.trans k.ex,fun t v e=>k.env t v (h.env t v e),fun i o e=>k.hp i o (h.hp i o e),dm k.nx h.nx⟩
end
section
variable {reg:Reg} (P:Program)
structure Lf(T:Nat→Type) where
 i:Nat
 j:Nat
 since:Nat
 seen:List Nat
 c:Nat
 es:List ((V T×V T)×Nat)
def qCx:Code→Option Tmp
 | .seq a _=>qCx a
 | .region _ ops false=>(match ops.toList with
  | o::_=>(match o.op,o.guard with | .next (.tmp t) false,none=>some t | _,_=>none)
  | []=>none)
 | _=>none
def qOe{T:Nat→Type}(st:St T)(t:Tmp):Option (Lf T):=match st.env.get t with
 | some (.it i)=>(match st.hp.get i with
  | some (.mit (some j) since seen last)=>(match st.hp.get j with
   | some (.map c es)=>(match qMp es seen last&&(qGB es seen).all (fun e=>Nat.blt e.2 since) with
    | true=>some ⟨i,j,since,seen,c,qGB es seen⟩
    | false=>none)
   | _=>none)
  | _=>none)
 | _=>none
def qQ9{T:Nat→Type}(h:Hp T)(lf:Lf T)(e:(V T×V T)×Nat):Hp T:=h.set lf.i (some (.mit (some lf.j) lf.since (lf.seen++[e.2]) lf.c))
def qSx{T:Nat→Type}(e:(V T×V T)×Nat):V T:=.tup [.d (.bool true),e.1.1,e.1.2]
def qOf(hd:Hd reg.T)(nt fuel:Nat)(v:V reg.T)(h':Hp reg.T):Code→St reg.T→Out (aH×St reg.T)
 | .seq a b,st=>(qOf hd nt fuel v h' a st).bind (qJy (ex P hd nt fuel b))
 | .region _ ops false,st=>(match ops.toList with
  | o::rest=>(match gL nt o.dst with
   | true=>(eT P hd nt ops rest (St.put ⟨st.env,h'⟩ o.dst v)).bind fun st=>.ret (.normal,st)
   | false=>.bad)
  | []=>.bad)
 | _,_=>.bad
def anew{T:Nat→Type}(st:St T):St T:=⟨st.env,⟨st.hp.h,st.hp.nx,[]⟩⟩
def qQA{T:Nat→Type}(wr:List Nat)(r:aH×St T):aH×St T:=(r.1,⟨r.2.env,⟨r.2.hp.h,r.2.hp.nx,r.2.hp.wr++wr⟩⟩)
def ended{T:Nat→Type}(r:aH×St T):Out (aH×St T):=match r.1 with | .normal=>.bad | e=>.ret (e,r.2)
def onM{T:Nat→Type}(k:St T→Out (aH×St T))(r:aH×St T):Out (aH×St T):=match r.1 with | .normal=>k r.2 | e=>.ret (e,r.2)
def qOg(hd:Hd reg.T)(nt fuel:Nat)(c:Code)(t:Tmp):Nat→St reg.T→Out (aH×St reg.T)
 | 0,_=>.bad
 | n+1,st=>(match qOe st t with
  | none=>.bad
  | some lf=>(match lf.es with
   | []=>(ex P hd nt fuel c st).bind ended
   | e::es=>(qGL (anew st).hp (fun e=>(qOf P hd nt fuel (qSx e) (qQ9 (anew st).hp lf e) c (anew st)).bind (onM (qOg hd nt fuel c t n))) (e::es)).bind fun r=>.ret (qQA st.hp.wr r)))
def qQB{T:Nat→Type}(st:St T)(c:Code):Option Tmp:=match qCx c with
 | some t=>(match qOe st t with
  | some lf=>(match lf.es with | _::_::_=>some t | _=>none)
  | none=>none)
 | none=>none
def exL(hd:Hd reg.T)(nt fuel:Nat)(c:Code)(st:St reg.T):Out (aH×St reg.T):=match c with
 | .loop c=>(match qQB st c with
  | some t=>qOg P hd nt fuel c t fuel st
  | none=>ex P hd nt fuel (.loop c) st)
 | c=>ex P hd nt fuel c st
end
section
variable {reg:Reg} {P:Program} {hd:Hd reg.T} {nt:Nat}
theorem gT.mem{F:Nat→Prop}{w:World}{φ:Phi}{es:List ((V reg.T×V reg.T)×Nat)}{cs:List MapEntry}(h:gT reg F w φ es cs){ce:MapEntry}(hc:ce∈cs):∃e∈es,aA reg F w φ e.1.1 ce.key∧aA reg F w φ e.1.2 ce.val∧ce.born=e.2:=by
 induction h with
 | nil=>cases hc
 | cons k v n c es cs hk hv hn _ ih =>
  rcases fu.1 hc with rfl | hc
  ·exact⟨((k,v),n),by simp,hk,hv,hn⟩
  ·obtain⟨e,h1,h2⟩:=ih hc
   exact⟨e,by simp[h1],h2⟩
theorem uN.mono{dl:List Deferred}{Q Q':aH×St reg.T→Prop}(hq:∀r,Q r→Q' r){N F:Nat→Prop}{φ:Phi}{h:Hp reg.T}{w:World}{e:Exit}{a':Act}{w':World}(hx:uN dl Q nt N F φ h w e a' w'):uN dl Q' nt N F φ h w e a' w':=by
 have key:∀e',yO dl Q nt N F φ h w e' a' w'→yO dl Q' nt N F φ h w e' a' w':=by
  rintro e' ⟨st',N',F',φ',h1,h2⟩
  exact⟨st',N',F',φ',hq _ h1,h2⟩
 cases e with
 | normal=>exact key _ hx
 | exit id=>exact key _ hx
 | ret=>exact key _ hx
 | goto l=>exact hx.elim
 | panic ch=>exact hx.elim
 | outgrown=>exact hx.elim
end
end Go.W
namespace Go.W
open Go Go.RowKit
section
variable {reg:Reg} (P:Program)
def qQC{T:Nat→Type}:List Nat→List (V T)→Tr (V T)→Tr (V T)
 | p::ps,x::xs,env=>qQC ps xs (env.set p (some x))
 | _,_,env=>env
def qGM{T:Nat→Type}(h:Hp T)(l:List Nat):Hp T:=⟨l.foldl (fun t i=>t.set i none) h.h,h.nx,l++h.wr⟩
def V.elder{T:Nat→Type}(n:Nat):V T→Bool
 | .ptr i _ _=>Nat.blt i n
 | .sl i _ _ _=>Nat.blt i n
 | .mp i=>Nat.blt i n
 | .it i=>Nat.blt i n
 | .fn _ vs us=>goL n vs&&goL n us
 | .ifc _ v=>V.elder n v
 | .agg vs=>goL n vs
 | .tup vs=>goL n vs
 | _=>true
where goL {T:Nat→Type} (n:Nat):List (V T)→Bool
 | []=>true
 | v::vs=>V.elder n v&&goL n vs
def O.elder{T:Nat→Type}(n:Nat):O T→Bool
 | .rows _ xs=>xs.all fun r=>V.elder.goL n r
 | .trows _ _=>true
 | .map _ es=>es.all fun e=>V.elder n e.1.1&&V.elder n e.1.2
 | .sit _ _=>true
 | .mit m _ _ _=>(match m with | some i=>Nat.blt i n | none=>true)
def qSy{T:Nat→Type}(hp:Hp T)(n0 i:Nat):Option (O T):=match hp.get i with
 | some o=>(match o.elder n0 with | true=>some o | false=>none)
 | none=>none
def qMz{T:Nat→Type}(hp:Hp T)(n0:Nat)(t:Tr (O T))(i:Nat):Tr (O T):=match qSy hp n0 i with
 | some o=>t.set i (some o)
 | none=>t
def qQD{T:Nat→Type}(h hp:Hp T)(l:List Nat)(n0:Nat):Hp T :=
 ⟨l.foldl (qMz hp n0) h.h,Nat.max h.nx hp.nx,l++h.wr⟩
def qGN{T:Nat→Type}(run:Code→St T→Out (aH×St T))(ps:List Nat)(assign body:Code)(env:Tr (V T)):List (List (V T))→Hp T→Out (Hp T)
 | [],h=>.ret h
 | x::xs,h=>(run assign ⟨qQC ps x env,h⟩).bind fun r=>match r.1 with
  | .normal=>(run body r.2).bind fun r2=>(match r2.1 with | .normal=>qGN run ps assign body env xs r2.2.hp | _=>.bad)
  | _=>.bad
def qOJ:aH→Bool
 | .exit _=>false
 | _=>true
def qOK{T:Nat→Type}(fn:Func)(cs:List (V T))(l:List Nat)(n0:Nat)(ps:List Nat)(nt:Nat)(e:aH)(out:List (List (V T))):Bool :=
 fn.results.toList.isEmpty&&Nat.ble (cs.length+1) fn.ntmps&&Nat.ble fn.ntmps 1000000&&l.all Tr.ok&&qOJ e&&out.all (fun x=>Nat.beq x.length ps.length)&&ps.all (fun p=>Nat.blt p nt)&&l.all (fun i=>Nat.blt i n0)
def qOL(hd:Hd reg.T)(nt fuel:Nat)(g:Operand)(ps:List Nat)(assign body:Code)(st:St reg.T):Out (aH×St reg.T) :=
 match valOf st.env.get g with
 | some (.fn f cs [])=>(match P.funcs[f]? with
  | some fn=>(match fn.body with
   | some c =>
    let l:=reach st.hp.get 1000 0 (V.names.goL cs [])
    (exY P hd fn.ntmps fuel c ⟨dP (.any::cs) 0 .e,fQ st.hp.get st.hp.nx l,[0],[]⟩).bind fun r =>
     Out.ask (qOK fn cs l st.hp.nx ps nt r.1 r.2.out) ((qGN (ex P hd nt fuel) ps assign body st.env r.2.out (qGM st.hp l)).bind fun h=>.ret (.normal,⟨st.env,qQD h r.2.hp l st.hp.nx⟩))
   | none=>.bad)
  | none=>.bad)
 | _=>.bad
def exI(hd:Hd reg.T)(nt fuel:Nat):Code→St reg.T→Out (aH×St reg.T)
 | .seq a b,st=>(exI hd nt fuel a st).bind (qJy (exI hd nt fuel b))
 | .block id c,st=>(exI hd nt fuel c st).bind (qAG id)
 | .rangeFunc g ps a b,st=>qOL P hd nt fuel g ps.toList a b st
 | c,st=>exL P hd nt fuel c st
end
section
variable {reg:Reg} {P:Program} {hd:Hd reg.T} {nt:Nat}
theorem qCy{h:Hp reg.T}{l:List Nat}(hl:∀i∈l,Tr.ok i=true)(j:Nat):(qGM h l).get j=if j∈l then none else h.get j:=by
 have key:∀(l:List Nat) (t:Tr (O reg.T)),(∀i∈l,Tr.ok i=true)→(l.foldl (fun t i=>t.set i none) t).get j=if j∈l then none else t.get j:=by
  intro l
  induction l with
  | nil=>intro t _;simp
  | cons i l ih =>
   intro t hk
   rw[lv,ih _ (fun i hi=>hk i (by simp[hi])),Tr.dG (hk i (by simp))]
   by_cases h1:j∈l
   ·simp[h1]
   ·by_cases h2:j=i
    ·simp[h2]
    ·simp[h1,h2]
 exact key l h.h hl
theorem GO.hide{N F:Nat→Prop}{φ:Phi}{h:Hp reg.T}{w:World}{l:List Nat}(hH:HR N F φ h w)(hl:∀i∈l,Tr.ok i=true):GO N F φ h w N F φ (qGM h l) w:=by
 have sub:∀b,bR reg φ (qGM h l).get b→bR reg φ h.get b:=by
  rintro b ⟨i,o,s,k,h1,h2⟩
  rw[qCy hl] at h1
  split at h1
  ·cases h1
  ·exact⟨i,o,s,k,h1,h2⟩
 refine⟨⟨rfl,rfl,rfl,dh _,fun _ _ _=>rfl,fun _ h=>h,fun _ h=>.inl h,fun _ _=>rfl,fun _ h=>h,fun b hb=>.inl (sub b hb),fun i p hp=>.inl (hH.dom i p hp)⟩,⟨dh _,l,rfl,fun i hn _=>?_⟩,fun i hi=>.inl hi⟩
 rw[qCy hl,if_neg hn]
theorem GO.other{N F N' F':Nat→Prop}{φ φ':Phi}{h h':Hp reg.T}{w W W':World}(g:GO N F φ h w N' F' φ' h' W)(hs:W.heap.size≤W'.heap.size)(hb:∀b,b<w.heap.size→¬bR reg φ h.get b→W'.heap[b]? = W.heap[b]?)
  (h1:W'.os=W.os) (h2:W'.tape=W.tape) (h3:W'.output=W.output):GO N F φ h w N' F' φ' h' W' :=
 ⟨⟨h1.trans g.goes.os,h2.trans g.goes.tape,h3.trans g.goes.output,dm g.goes.size hs,fun b hb1 hb2=>(hb b hb1 hb2).trans (g.goes.block b hb1 hb2),g.goes.fsub,g.goes.fnew,g.goes.phi,g.goes.names,g.goes.dom,g.goes.new⟩,g.grow,g.names⟩
theorem RF.later{dl:List Deferred}{N F:Nat→Prop}{φ:Phi}{s:FS reg.T}{a:Act}{w w':World}(h:RF dl N F φ nt s a w)(hs:w.heap.size≤w'.heap.size)(hb:∀b,F b∨bR reg φ s.H b→w'.heap[b]? = w.heap[b]?):RF dl N F φ nt s a w' :=
 ⟨fun t v hv=>⟨(h.env t v hv).1,(h.env t v hv).2.mono reg (fun b hf=>⟨hf,hb b (.inl hf)⟩) (fun _ _ hp=>hp)⟩,h.size,h.heap.later hs hb,h.dfs⟩
theorem qGO{W:World}{b:Nat}{o:Obj}(h:W.heap[b]? = some o):b<W.heap.size:=(je.1 h).1
def Mk(φ:Phi)(H:Nat→Option (O reg.T))(F:Nat→Prop)(B:Nat)(w:World)(ml:List Deferred):Prop :=
 ml.Nodup∧∀d∈ml,∃D:Nat,d = { target:=.collected D,args:=#[] }∧B≤D∧w.heap[D]? = some (.deferred (some []))∧¬F D∧¬bR reg φ H D
def qAT(dl:List Deferred)(Q:aH×St reg.T→Prop)(nt:Nat)(N F:Nat→Prop)(φ:Phi)(h:Hp reg.T)(w:World)(e:aH)(a':Act)(w':World):Prop :=
 ∃st' N' F' φ' ml,Q (e,st')∧RS (ml++dl) N' F' φ' nt st' a' w'∧GO N F φ h w N' F' φ' st'.hp w'∧Mk φ' st'.hp.get F' w.heap.size w' ml
def qOh(dl:List Deferred)(Q:aH×St reg.T→Prop)(nt:Nat)(N F:Nat→Prop)(φ:Phi)(h:Hp reg.T)(w:World):Exit→Act→World→Prop
 | .normal,a',w'=>qAT dl Q nt N F φ h w .normal a' w'
 | .exit id,a',w'=>qAT dl Q nt N F φ h w (.exit id) a' w'
 | .ret,a',w'=>qAT dl Q nt N F φ h w .ret a' w'
 | _,_,_=>False
theorem qOh.of{dl:List Deferred}{Q:aH×St reg.T→Prop}{N F:Nat→Prop}{φ:Phi}{h:Hp reg.T}{w:World}{e:Exit}{a':Act}{w':World}(hx:uN dl Q nt N F φ h w e a' w'):qOh dl Q nt N F φ h w e a' w':=by
 have key:∀e',yO dl Q nt N F φ h w e' a' w'→qAT dl Q nt N F φ h w e' a' w':=by
  rintro e' ⟨st',N',F',φ',h1,h2,h3⟩
  exact⟨st',N',F',φ',[],h1,h2,h3,List.nodup_nil,fun d hd=>by cases hd⟩
 cases e with
 | normal=>exact key _ hx
 | exit id=>exact key _ hx
 | ret=>exact key _ hx
 | goto l=>exact hx.elim
 | panic ch=>exact hx.elim
 | outgrown=>exact hx.elim
theorem qAT.from{dl ml:List Deferred}{Q:aH×St reg.T→Prop}{N N' F F':Nat→Prop}{φ φ':Phi}{h h':Hp reg.T}{w w':World}{e:aH}{a':Act}{w'':World}(g:GO N F φ h w N' F' φ' h' w')(hm:Mk φ' h'.get F' w.heap.size w' ml)
  (c:qAT (ml++dl) Q nt N' F' φ' h' w' e a' w''):qAT dl Q nt N F φ h w e a' w'':=by
 obtain⟨st',N'',F'',φ'',ml',h1,h2,h3,h4⟩:=c
 refine⟨st',N'',F'',φ'',ml' ++ ml,h1,by rw[gm];exact h2,g.trans h3,List.nodup_append.2 ⟨h4.1,hm.1,fun d hd d' hd' e=>?_⟩,fun d hd=>?_⟩
 ·subst e
  obtain⟨D,e1,e2,_⟩:=h4.2 d hd
  obtain⟨D',e1',_,e3',_⟩:=hm.2 d hd'
  have:= qGO e3'
  rw[e1] at e1'
  simp at e1'
  omega
 ·rcases dw.1 hd with hd | hd
  ·obtain⟨D,e1,e2,e3⟩:=h4.2 d hd
   exact⟨D,e1,dm g.goes.size e2,e3⟩
  ·obtain⟨D,e1,e2,e3,e4,e5⟩:=hm.2 d hd
   have hlt:=qGO e3
   refine⟨D,e1,e2,(h3.goes.block D hlt e5).trans e3,fun hf=>?_,fun ho=>?_⟩
   ·rcases h3.goes.fnew D hf with h | h | h
    ·exact e4 h
    ·omega
    ·exact e5 h
   ·rcases h3.goes.dom D ho with h | h
    ·exact e5 h
    ·omega
theorem jF{n:Nat}:∀{vs:List (V reg.T)},V.elder.goL n vs=true→∀j,(vs.getD j .any).elder n=true
 | [],_,j=>rfl
 | v::vs,h,j=>by
  simp only[V.elder.goL,bu] at h
  cases j with
  | zero=>exact h.1
  | succ j=>exact jF h.2 j
theorem sQ{n:Nat}{F F2:Nat→Prop}{W:World}{φ φ':Phi}{v:V reg.T}{cv:Value}(h:aA reg F W φ v cv)(hb:v.elder n=true)(hF:∀b,F b→F2 b)(hφ:∀i p,i<n→φ i=some p→φ' i=some p):aA reg F2 W φ' v cv:=by
 have lt:∀{i},Nat.blt i n=true→i<n:=fun h=>bz h
 induction h with
 | d x v hd=>exact .d x v (hd.mono reg (fun b hb=>⟨hF b hb,rfl⟩))
 | ptr i r o b s k z hp=>exact .ptr _ r o b s k z (hφ _ _ (lt hb) hp)
 | fp row o a C t fz hFa hb' hz hr=>exact .fp row o a C t fz (hF _ hFa) hb' hz (fun j hj=>(hr j hj).mono reg (fun b hb=>⟨hF b hb,rfl⟩))
 | sl j off len cap b s k z cap' hp hc hl hm' hz=>exact .sl _ off len cap b s k z cap' (hφ _ _ (lt hb) hp) hc hl hm' hz
 | slz j off cap base hc hb'=>exact .slz _ off cap base hc hb'
 | mp i b s hp=>exact .mp _ b s (hφ _ _ (lt hb) hp)
 | it i b s hp=>exact .it _ b s (hφ _ _ (lt hb) hp)
 | fn f caps fst cs fs hz _ hz' _ ih ih' =>
  simp only[V.elder,bu] at hb
  exact .fn f _ _ cs fs hz (fun j hj=>ih j hj (jF hb.1 j)) hz' (fun j hj=>ih' j hj (jF hb.2 j))
 | agg vs cs hz _ ih=>exact .agg _ cs hz (fun j hj=>ih j hj (jF hb j))
 | tup vs cs hz _ ih=>exact .tup _ cs hz (fun j hj=>ih j hj (jF hb j))
 | ifc t v cv _ ih=>exact .ifc t _ cv (ih hb)
 | undef=>exact .undef
 | any v=>exact .any v
theorem qFK{n:Nat}{F F2:Nat→Prop}{W:World}{φ φ':Phi}(hF:∀b,F b→F2 b)(hφ:∀i p,i<n→φ i=some p→φ' i=some p){es:List ((V reg.T×V reg.T)×Nat)}{cs:List MapEntry}(h:gT reg F W φ es cs)(hb:(es.all fun e=>V.elder n e.1.1&&V.elder n e.1.2)=true):gT reg F2 W φ' es cs:=by
 induction h with
 | nil=>exact .nil
 | cons k v m c es cs hk hv hn _ ih =>
  simp only[ow,bu] at hb
  exact .cons k v m c es cs (sQ hk hb.1.1 hF hφ) (sQ hv hb.1.2 hF hφ) hn (ih (by simpa using hb.2))
theorem qAU{n i:Nat}{F F2:Nat→Prop}{W:World}{φ φ':Phi}{o:O reg.T}(h:eZ reg F W φ i o)(hb:o.elder n=true)(hi:i<n)(hF:∀b,F b→F2 b)(hφ:∀i p,i<n→φ i=some p→φ' i=some p)(hn:∀i,i<n→φ i=none→φ' i=none):eZ reg F2 W φ' i o:=by
 have rows:o.bB reg=true→(∀r c,(((o.row reg r).getD c .any)).elder n=true)→eZ reg F2 W φ' i o:=by
  intro h0 hbl
  obtain⟨_,hr⟩:=h.rows reg h0
  refine .inl ⟨h0,?_⟩
  rcases hr with⟨h1,h2⟩ | ⟨b,s,C,t,fz,h1,h2,h3,h4⟩
  ·exact .inl ⟨h1,hn i hi h2⟩
  ·exact .inr ⟨b,s,C,t,fz,hφ i _ hi h1,h2,h3,⟨h4.size,h4.len,⟨h4.at_.wid,h4.at_.aP,fun r c hr hc=>sQ (h4.at_.rel r c hr hc) (hbl r c) hF hφ⟩⟩⟩
 cases o with
 | rows k xs =>
  refine rows rfl (fun r c=>?_)
  simp only[O.row]
  refine jF ?_ c
  simp only[O.elder] at hb
  rcases ja r xs.length with hr | hr
  ·have:= ek.1 hb (xs.getD r []) (by rw[o7,gu hr];exact l9 hr)
   exact this
  ·rw[o7,l7 hr];rfl
 | trows e xs =>
  refine rows rfl (fun r c=>?_)
  simp only[O.row]
  rw[o7,mg]
  cases (reg.enc e (xs.getD r (reg.dflt e)))[c]?<;>rfl
 | map c es =>
  obtain⟨b,ces,h1,h2,h3⟩:=h.map reg
  exact .inr (.inl ⟨c,es,b,ces,rfl,hφ i _ hi h1,h2,qFK hF hφ h3 hb⟩)
 | sit s p =>
  obtain⟨b,h1,h2⟩:=h.sit reg
  exact .inr (.inr (.inl ⟨s,p,b,rfl,hφ i _ hi h1,h2⟩))
 | mit m since seen last =>
  obtain⟨b,mb,h1,h2,h3⟩:=h.mit reg
  refine .inr (.inr (.inr ⟨m,since,seen,last,b,mb,rfl,hφ i _ hi h1,h2,?_⟩))
  cases m with
  | none=>exact h3
  | some j=>obtain⟨c,s,e1,e2⟩:=h3;exact⟨c,s,hφ _ _ (bz hb) e1,e2⟩
end
end Go.W
