/- Part of the proof: texts Pd Pt1 Pe. No conditions. -/
import Derived.Test.YtlmkakccmpncjaaGreatDoorKc
import Derived.Test.YtlmkakccmpncjaaGreatDoorPa
set_option linter.all false
noncomputable section
namespace Go.Proofs.YtlmkakccmpncjaaGreatDoor
open Sum
open Go Go.W Go.Proofs
set_option maxRecDepth 100000
def zP1(st:St aC.T)(t:Nat):List Ld:=match st.env.get t with | some (.sl i _ _ _)=>[.gone i] | _=>[]
def zP2:List (Nat×Option (List Kd)):=[]
def zP3:FuncId→List VK→Option (Option (List Kd)):=zHz zP2 []
def zQr:List (Nat×(Nat→St aC.T→Option (List Ld))):=[]
def zQs:List (Nat×(Nat→St aC.T→Option (List Ld))):=[]
def zQt(f:FuncId)(id:Nat)(st:St aC.T):Option (List Ld):=match bV zQr f with | some L=>L id st | none=>none
def zQu(f:FuncId)(id:Nat)(st:St aC.T):Option (List Ld):=match bV zQs f with | some L=>L id st | none=>none
def zNU(C:Con aC.T)(cj:FuncId→Option CJK):Nat→ExR aC.T:=exN (hdT aC Tryz.prog C (fun _=>false) 1000 5) cj zP3 zQt zQu 6
theorem qZM{C:Con aC.T}{cj:FuncId→Option CJK}(h:qBk C cj):qEI (zNU C cj):=qWI (bU mixed hno h.1 _ _ _) (qPX h)
def zNV:T3:=[(4,qO1,none),(5,qWa,none),(6,qTk,none),(7,qE7,none),(8,qPZ,none),(10,wH,none)]
theorem zKY:qDS zNV:=aZ zC8 mW (aZ zG1 mW (aZ zG8 mW (aZ qKU mW (aZ qZ7 mW (aZ qBN mW (uH))))))
def zNW:Con aC.T:=qEJ zNV (fun _=>none)
def zNX:FuncId→Option CJK:=cj3 zNV (fun _=>none)
theorem qZN:qBk zNW zNX:=nO zKY qL2
def zKZ:=ljT [(2,fun st=>[si 5])]
def zIw:=uX (zNU zNW zNX) zKZ noL 9 [.dat 3,.int .i64] [.bool]
def qGD(l:List Int)(n:Int):Bool:=(zIw (l,n,())).isSome
def qLQ(l:List Int)(n:Int):Bool×Unit:=(zIw (l,n,())).getD (false,())
def zIx:TB:=eD aC [.dat 3,.int .i64] [.bool] (fun a=>qGD a.1 a.2.1) (fun a=>qLQ a.1 a.2.1)
theorem zNY:aJ 9 zIx:=rXb (qZM qZN) (by kernel_rfl) rfl rfl fun _=>rfl
def zNZ:T3:=[(9,zIx,some (jB aC [.dat 3,.int .i64] [.bool] (fun a=>qGD a.1 a.2.1) (fun a=>qLQ a.1 a.2.1)))]
theorem zLa:qDS zNZ:=aZ zNY (tX sD) (uH)
def zP4:Con aC.T:=qEJ zNZ zNW
def zP5:FuncId→Option CJK:=cj3 zNZ zNX
theorem zLb:qBk zP4 zP5:=nO zLa qZN
def qUc:=ljT [(8,fun st=>[aS st 10 43 false,si 11]),(17,fun st=>[aS st 13 3 false,si 14]),(24,fun st=>[si 17]),(32,fun st=>[si 22])]
def qUd:=ljT [(9,fun st=>[aS st 10 43 false]),(12,fun st=>[.slot 10 (.dat 43)]),(16,fun st=>[aS st 13 3 false]),(20,fun st=>[.slot 13 (.dat 3)]++zP1 st 13)]
def qGE:=uX (zNU zP4 zP5) qUc qUd 3 [.rcd 25,.int .i64,.dat 3,.dat 3] [.bool]
def qUe(x:Scr)(k:Int)(picks:List Int)(raw:List Int):Bool:=(qGE (x,k,picks,raw,())).isSome
def qQj(x:Scr)(k:Int)(picks:List Int)(raw:List Int):Bool×Unit:=(qGE (x,k,picks,raw,())).getD (false,())
end Go.Proofs.YtlmkakccmpncjaaGreatDoor
namespace Go.Proofs.YtlmkakccmpncjaaGreatDoor
open Sum
open Go Go.W Go.Proofs
open Go.W.DT (ret need br both bad loop join)
set_option maxRecDepth 100000
def zIy(l:List Int)(n:Int):DT (Bool×Unit) :=
 loop (0,()) fun(s:Int×Unit)=>br (decide (s.1<(↑l.length:Int))) (need (ixB s.1 (↑l.length:Int)) (br (l.getD (Int.toNat s.1) 0==n) (ret (inr (true,()))) (ret (inl (w64 (s.1+1),()))))) (ret (inr (false,())))

theorem zOa{l:List Int}{n:Int}{r:(Bool×Unit)}(h:(zIy l n).G r):qGD l n=true∧qLQ l n=r:=bP (wX (l,n,())) (by kernel_rfl) h
def qZO(x:Scr)(k:Int)(picks:List Int)(raw:List Int):DT (Bool×Unit) :=
 let +zeta aa:=1;let +zeta z:=1;let +zeta l:=0;let +zeta i:=qGd x;let +zeta u:=(↑i.1.apps.length:Int);let +zeta g:=0;let +zeta d:=(↑i.1.conts.length:Int);need qBo (br (!qDM.1) (ret (false,())) (need (qGb x) (br (!(qKV x).1) (ret (true,())) (br (decide ((↑raw.length:Int)>20)) (ret (true,())) (need (qDD x) ((loop ([],l,()) fun(s:List Ap×Int×Unit) =>let +zeta j:=s.1.length;let +zeta r:=@bF Ap g j s.1++[i.1.apps.getD (Int.toNat s.2.1) dAp];br (decide (s.2.1<u)) ((need (ixB s.2.1 u) (br ((i.1.apps.getD (Int.toNat s.2.1) dAp).state==2) (need (ixB s.2.1 u) (need ((g+j).beq j) (need (aT (j+aa) 200&&(g+j).ble j) (need ((j+aa).beq r.length) (ret (inl (r,()))))))) (need (j.beq j) (ret (inl (s.1,())))))).join fun(p:List Ap×Unit)=>need (p.1.length.beq p.1.length) (ret (inl (p.1,w64 (s.2.1+z),())))) (need ((0+j).ble j&&true) (ret (inr (inl (@aO Ap g (g+j) s.1,())))))).join fun(s:List Ap×Unit) =>let +zeta o:=(↑s.1.length:Int);let +zeta c:=s.1.getD (Int.toNat (jG k o).1) dAp;br (o==l) (ret (true,())) (need (oQ k o) (need (ixB (jG k o).1 o) ((need (aT (g+raw.length) 8&&true) (need ((g+raw.length).beq ([]++raw).length) (ret (inl ([]++raw,()))))).join fun(p:List Int×Unit)=>(need (p.1.length.beq p.1.length) (loop (p.1,l,()) fun(w:List Int×Int×Unit) =>let +zeta ab:=w.2.1;let +zeta q:=picks.getD (Int.toNat ab) l;let +zeta e:=w.1.length;let +zeta v:=(0+e).ble e&&true;let +zeta t:=@aO Int g (g+e) w.1;let +zeta f:=@bF Int g e w.1++[(i.1.conts.getD (Int.toNat (jG q d).1) dCt).id];br (decide (ab<(↑picks.length:Int))) (br (decide (ab<8)) (br (decide (d>l)) (need (ixB ab (↑picks.length:Int)) (need (oQ q d) (need (ixB (jG q d).1 d) (need ((g+e).beq e) (need (aT (e+aa) 8&&(g+e).ble e) (need ((e+aa).beq f.length) (ret (inl (f,w64 (ab+z),()))))))))) (need v (ret (inr (inl (t,(),())))))) (need v (ret (inr (inl (t,(),())))))) (need v (ret (inr (inl (t,(),()))))))).join fun(w:List Int×Unit×Unit) =>let +zeta n:=Ip.mk 5 c.id (w64 (c.beat+z)) l [] dNd dAp [] w.1 dPn;let +zeta a:=sN i.1 n;let +zeta m:=(↑a.2.1.conts.length:Int);need (uC i.1 n) (br (a.2.1.err != l) (ret (false,())) (br ((↑a.2.1.gone.length:Int) != (↑c.kills.length:Int)) (ret (false,())) (loop (l,()) fun(s_3:Int×Unit) =>let +zeta h:=w64 (s_3.1+z);let +zeta b:=i.1.conts.getD (Int.toNat s_3.1) dCt;let +zeta y:=shut aL a.1 b.id;br (decide (s_3.1<d)) (need (ixB s_3.1 d) (br (b.app==c.id) (br (!b.master) (need (qGD w.1 b.id) ((ret (inl (qLQ w.1 b.id))).join fun(s_4:Bool×Unit)=>need (bN a.1) (br (y.2==s_4.1) (ret (inr (false,()))) (loop (l,()) fun(s_5:Int×Unit)=>br (decide (s_5.1<m)) (br s_4.1 (need (ixB s_5.1 m) (br ((a.2.1.conts.getD (Int.toNat s_5.1) dCt).id==b.id) (ret (inr (inr (false,())))) (ret (inl (w64 (s_5.1+z),()))))) (ret (inr (inl (h,()))))) (ret (inr (inl (h,())))))))) (need (bN a.1) (br (y.2==false) (ret (inr (false,()))) (loop (l,()) fun(s_4:Int×Unit)=>br (decide (s_4.1<m)) (ret (inr (inl (h,())))) (ret (inr (inl (h,())))))))) (need (bN a.1) (br (y.2==false) (ret (inr (false,()))) (loop (l,()) fun(s_4:Int×Unit)=>br (decide (s_4.1<m)) (ret (inr (inl (h,())))) (ret (inr (inl (h,()))))))))) (ret (inr (true,())))))))))))))))

theorem zLc{x:Scr}{k:Int}{picks:List Int}{raw:List Int}{r:(Bool×Unit)}(h:(qZO x k picks raw).G r):qUe x k picks raw=true∧qQj x k picks raw=r:=bP (wX (x,k,picks,raw,())) (by kernel_rfl) h
end Go.Proofs.YtlmkakccmpncjaaGreatDoor
namespace Go.Proofs.YtlmkakccmpncjaaGreatDoor
open Sum
open Go Go.W Go.Proofs
open Go.W.DT (ret need br both bad loop join)
set_option maxRecDepth 100000
def ipK(k:Int):Ip:=⟨k,0,0,0,[],dNd,dAp,[],[],dPn⟩
theorem qLR:dH iX:=rY.ok (by decide)
theorem qO3:qBo=true∧qDM=(true,()):=zCA (by
 have q:=qTR (x:=ipK 99) qLR qLR (zIn rfl)
 have q2:=zKR (a:=iX) (b:=iX) qLR
 have e:qPF iX iX=true:=by simp[qPF]
 rw[e] at q2
 show(need (uC iX (ipK 99)) (br ((sN iX (ipK 99)).2.1.err==(3:Int)) (need (qA1 iX (sN iX (ipK 99)).1) (ret ((qDK iX (sN iX (ipK 99)).1).1,()))) (ret (false,())))).G (true,())
 rw[q.1,q.2]
 refine aH rfl (bW rfl ?_)
 show(need (qA1 iX iX) (ret ((qDK iX iX).1,()))).G (true,())
 rw[q2.1,q2.2]
 exact aH rfl rfl)
theorem zOb(x:Scr):qGb x=true∧qKV x=(decide (x.ns.length≤30)&&decide (x.acts.length≤80),()):=zMT (by
 unfold zG9
 refine qMd (fun h=>?_) fun h=>?_
 ·have: decide (x.ns.length≤30)=true:=by simp at h ⊢;omega
  rw[this]
  exact congrArg (fun z=>(z,())) (show decide ((x.acts.length:Int)≤80)=(true&&decide (x.acts.length≤80)) by rw[je];simp;omega)
 ·have: decide (x.ns.length≤30)=false:=by simp at h ⊢;omega
  rw[this];rfl)
theorem zOc(l:List Int)(n:Int)(h:l.length≤1000000000):qGD l n=true∧qLQ l n=(uV l n,()):=zOa (by
 unfold zIy
 refine zGS l 0 (fun i=>(i,())) (fun a=>a==n) (fun b=>(b,())) (fun i hi=>bW (aY hi) (aH (bB hi) ?_)) (aV bE rfl)
 simp only[di,aD hi h]
 cases l.getD i 0==n<;>rfl)
theorem qO4(k:Int){n:Nat}(h0:0<n)(hn:n≤1000000000):oQ k n=true∧∃j:Nat,j<n∧jG k n=((j:Int),()):=by
 have key:(qE8 k n).G (aP k n,()):=by
  unfold qE8 aP
  refine aH (by simp;omega) (aF ?_)
  cases decide (k.tmod n<0)<;>rfl
 have hb:=wZ k (n:=(n:Int)) (by omega) (by omega)
 refine⟨(qKW key).1,(aP k n).toNat,by omega,?_⟩
 rw[(qKW key).2,show(((aP k n).toNat:Nat):Int)=aP k n by omega]
theorem zOd{σ ρ:Type}{body:σ→DT (σ ⊕ ρ)}(I:σ→Prop)(μ:σ→Nat)(P:ρ→Prop)(h:∀s,I s→(∃s',(body s).G (.inl s')∧I s'∧μ s' < μ s)∨∃x,P x∧(body s).G (.inr x)){s0:σ}(h0:I s0):∃x,P x∧(DT.loop s0 body).G x:=by
 have key:∀(n:Nat) (s:σ),μ s<n→I s→∃x,P x∧DT.yO (fun s y=>(body s).G y) n s x:=by
  intro n
  induction n with
  | zero=>intro s h;omega
  | succ n ih =>
   intro s hs hi
   rcases h s hi with⟨s',h1,h2,h3⟩ | ⟨x,hx,h1⟩
   ·obtain⟨x,hx,hr⟩:=ih s' (by omega) h2
    exact⟨x,hx,.inl s',h1,hr⟩
   ·exact⟨x,hx,.inr x,h1,rfl⟩
 obtain⟨x,hx,hr⟩:=key _ s0 (jy _) h0
 exact⟨x,hx,DT.pF.2 ⟨_,hr⟩⟩
def runs(s:Se):List Ap:=s.apps.filter fun a=>a.state==2
def ipG(a:Ap)(ids:List Int):Ip:=⟨5,a.id,w64 (a.beat+1),0,[],dNd,dAp,[],ids,dPn⟩
theorem qZP(x:Scr)(k:Int)(picks raw:List Int):qUe x k picks raw=true∧qQj x k picks raw=(true,()):=zLc (by
 unfold qZO
 rw[qO3.1,qO3.2]
 refine aH rfl (aV rfl ?_)
 have qf:qGb x=true∧qKV x=(decide (x.ns.length≤30)&&decide (x.acts.length≤80),()):=zOb x
 rw[qf.1,qf.2]
 refine aH rfl (qMd (fun _=>rfl) fun h=>qMd (fun _=>rfl) fun hraw=>?_)
 have hx:x.acts.length≤80:=by simp at h;exact h.2
 have hraw:raw.length≤20:=by simp at hraw;omega
 obtain⟨⟨q1,q2⟩,hr⟩:=zHq zNl zPg hx
 have hR:=qUa hx
 rw[q1,q2]
 refine aH rfl ?_
 generalize qH5 x=s at hr hR
 simp only[]
 have hb:2010+2000*x.acts.length≤1000000:=by omega
 have hO:=hr.fine.ok (show 2010+2000*x.acts.length≤1000000000 by omega)
 have hS:=hr.fine.keep.sn.le hb
 refine aN (runs s,()) ?_ ?_
 ·have e:(inl (runs s,()):(List Ap×Unit) ⊕ (Bool×Unit))=(fun v:List Ap=>inl (v,())) (s.apps.foldl (fun b a=>bif a.state==2 then b++[a] else b) []):=by
   rw[fold_filter];rfl
  rw[e]
  refine nM s.apps dAp (fun i v=>(v,i,())) (fun b a=>bif a.state==2 then b++[a] else b) (fun v=>inl (v,())) (fun i v=>v.length≤i) (fun i v hi hv=>?_) (fun v hv=>?_) (df 0)
  ·have hl:v.length≤i:=hv
   have hi2:=hO.apps
   constructor
   ·show(bif (s.apps.getD i dAp).state==2 then v++[s.apps.getD i dAp] else v).length≤i+1
    cases (s.apps.getD i dAp).state==2<;>simp<;>omega
   ·refine bW (aY hi) ?_
    refine aN ((bif (s.apps.getD i dAp).state==2 then v++[s.apps.getD i dAp] else v),()) (aH (bB hi) ?_) ?_
    ·simp only[di,pJ,dm]
     cases (s.apps.getD i dAp).state==2 with
     | true=>exact bW rfl (aH (bB hi) (aH (by simp) (aH (by rw[dK (by omega) (by decide)];simp) (aH (by simp) rfl))))
     | false=>exact aV rfl (aH (by simp) rfl)
    ·exact aH (by simp) (by rw[aD hi hi2];rfl)
  ·refine aV bE (aH (by simp) ?_)
   rw[dm,eB];rfl
 ·refine qMd (fun _=>rfl) fun h0=>?_
  have h0:0<(runs s).length:=by simp at h0;exact oh.2 (by simpa using h0)
  have hrl:(runs s).length≤1000000000:=bq (gp _ _) hO.apps
  obtain⟨w1,j,hj,w2⟩:=qO4 k h0 hrl
  simp only[w1,w2,aW,bB hj,di]
  have ha:(runs s).getD j dAp∈runs s:=bL hj
  generalize (runs s).getD j dAp=a at ha
  obtain⟨ha,hst⟩:=l7.1 ha
  have hst:a.state=2:=by simpa using hst
  obtain⟨i,hi,hia⟩:=qd ha
  have hia:s.apps.getD i dAp=a:=by simp[List.getD,hi,hia]
  have hf:=zNT hr.fine.keep.tidy hi
  rw[hia] at hf
  have hbt:=hR.beat a ha
  refine aN (raw,()) (aH (by rw[dm,dK (by omega) (by decide)];rfl) (aH (by simp) rfl)) ?_
  have hloop:∃y:(List Int×Unit×Unit) ⊕ (Bool×Unit),(∃ids:List Int,y=.inl (ids,(),())∧ids.length≤30)∧(loop (raw,(0:Int),()) fun(s_2:List Int×Int×Unit) =>
    br (decide (s_2.2.1<(↑picks.length:Int))) (br (decide (s_2.2.1<(8:Int))) (br (decide ((↑s.conts.length:Int)>(0:Int))) (need (ixB s_2.2.1 (↑picks.length:Int)) (need (oQ (picks.getD (Int.toNat s_2.2.1) (0:Int)) (↑s.conts.length:Int)) (need (ixB (jG (picks.getD (Int.toNat s_2.2.1) (0:Int)) (↑s.conts.length:Int)).1 (↑s.conts.length:Int)) (need (((0:Nat)+s_2.1.length).beq s_2.1.length) (need (aT (s_2.1.length+(1:Nat)) (8:Nat)&&((0:Nat)+s_2.1.length).ble s_2.1.length) (need ((s_2.1.length+(1:Nat)).beq (@bF Int (0:Nat) s_2.1.length s_2.1++[(s.conts.getD (Int.toNat (jG (picks.getD (Int.toNat s_2.2.1) (0:Int)) (↑s.conts.length:Int)).1) dCt).id]).length) (ret (inl (@bF Int (0:Nat) s_2.1.length s_2.1++[(s.conts.getD (Int.toNat (jG (picks.getD (Int.toNat s_2.2.1) (0:Int)) (↑s.conts.length:Int)).1) dCt).id],w64 (s_2.2.1+(1:Int)),())))))))))
     (need (((0:Nat)+s_2.1.length).ble s_2.1.length&&true) (ret (inr (inl (@aO Int (0:Nat) ((0:Nat)+s_2.1.length) s_2.1,(),())))))) (need (((0:Nat)+s_2.1.length).ble s_2.1.length&&true) (ret (inr (inl (@aO Int (0:Nat) ((0:Nat)+s_2.1.length) s_2.1,(),())))))) (need (((0:Nat)+s_2.1.length).ble s_2.1.length&&true) (ret (inr (inl (@aO Int (0:Nat) ((0:Nat)+s_2.1.length) s_2.1,(),())))))).G y:=by
   refine zOd (fun st=>∃(l:List Int) (n:Nat),st=(l,(n:Int),())∧n≤8∧l.length≤20+n) (fun st=>(8-st.2.1).toNat) _ ?_ ⟨raw,0,rfl,by omega,by omega⟩
   rintro _ ⟨l,n,rfl,hn,hl⟩
   have he:∃y:(List Int×Unit×Unit) ⊕ (Bool×Unit),(∃ids:List Int,y=.inl (ids,(),())∧ids.length≤30)∧(need (((0:Nat)+l.length).ble l.length&&true) (ret (inr (inl (@aO Int (0:Nat) ((0:Nat)+l.length) l,(),())))):DT ((List Int×Int×Unit) ⊕ ((List Int×Unit×Unit) ⊕ (Bool×Unit)))).G (.inr y) :=
    ⟨.inl (l,(),()),⟨l,rfl,by omega⟩,aH (by simp) (by rw[dm,eB];rfl)⟩
   by_cases h1:n<picks.length
   ·by_cases h2:n<8
    ·by_cases h3:0<s.conts.length
     ·left
      obtain⟨v1,m,hm,v2⟩:=qO4 (picks.getD n 0) h3 hO.conts
      refine⟨(l++[(s.conts.getD m dCt).id],((n+1:Nat):Int),()),?_,⟨_,n+1,rfl,by omega,by simp;omega⟩,by simp only[];omega⟩
      simp only[di,v1,v2,pJ,dm]
      refine bW (aY h1) (bW (by simp;omega) (bW (by simp;exact h3) (aH (bB h1) (aH rfl (aH (bB hm) (aH (by simp) (aH (by rw[dK (by omega) (by decide)];simp) (aH (by simp) ?_))))))))
      rw[dI (by omega) (by omega)];rfl
     ·obtain⟨y,hy,hg⟩:=he
      exact .inr ⟨y,hy,bW (aY h1) (bW (by simp;omega) (aV (by rw[decide_eq_false_iff_not];omega) hg))⟩
    ·obtain⟨y,hy,hg⟩:=he
     exact .inr ⟨y,hy,bW (aY h1) (aV (decide_eq_false (by show ¬((n:Int)<8);omega)) hg)⟩
   ·obtain⟨y,hy,hg⟩:=he
    exact .inr ⟨y,hy,aV (decide_eq_false (by show ¬((n:Int)<(picks.length:Int));omega)) hg⟩
  obtain⟨y,⟨ids,rfl,hids⟩,hloop⟩:=hloop
  refine aN (ids,(),()) (aH (by simp) hloop) ?_
  have hA:qIv a:=hO.app a ha
  have hgr:a.grants.length≤1000000:=(hS.app a ha).grants
  have hw:w64 (a.beat+1)=a.beat+1:=dI (by omega) (by omega)
  have q:=zKU (x:=ipG a ids) (i:=i) hO rfl hf (by rw[hia];exact hst) (by rw[hia];exact hw) (by rw[hia];show w64 (w64 (a.beat+1)-a.beat)=1;rw[hw,dI (by omega) (by omega)];omega) rfl (by show ids.length≤_;omega) hS.conts (by rw[hia];exact hgr) (by rw[hia];exact hA)
  have hT:=qOz (x:=ipG a ids) (i:=i) hO (by rw[hia];exact hgr) (by rw[hia];exact hA)
  rw[hia] at q hT
  show(need (uC s (ipG a ids)) _).G _
  refine aH q.1 ?_
  have e1:sN s (Ip.mk 5 a.id (w64 (a.beat+1)) 0 [] dNd dAp [] ids dPn)=(qEP s (ipG a ids) a i,qCM s (ipG a ids) a,()):=q.2
  simp only[e1]
  refine aV rfl (aV (by simp[qCM]) ?_)
  have hg1:=fun{c:Ct} (hc:c∈s.conts)=>zIv (x:=ipG a ids) (a:=a) (i:=i) hR.asc hc
  have hg2:=fun{c d:Ct} (hc:c∈s.conts)=>zCI (x:=ipG a ids) (a:=a) (c:=c) (d:=d) hR.asc hc
  have hcl:(qCM s (ipG a ids) a).conts.length≤1000000000000:=by
   obtain⟨hv1,hv2⟩:=qDL (app:=a.id) (ids:=ids) (v:=(s.conts,a.grants))
   refine bq qLJ ?_
   have hv1:(bS s (ipG a ids) a).1.length≤s.conts.length:=hv1
   have hv2:(bS s (ipG a ids) a).2.length≤a.grants.length:=hv2
   have h3:=hS.conts
   have: (bS s (ipG a ids) a).2.length*(bS s (ipG a ids) a).1.length≤1000000*1000000:=o5 (by omega) (by omega)
   simp only[gq,dm]
   omega
  generalize qEP s (ipG a ids) a i=t at hg1 hT
  generalize (qCM s (ipG a ids) a).conts=os at hg2 hcl
  refine qHv s.conts.length (fun i=>(i,())) (fun _=>True) (fun n hn _=>.inl ⟨trivial,?_⟩) (fun _=>?_) (i0:=0) trivial (cz _)
  case refine_2=>exact aV bE rfl
  refine bW (aY hn) (aH (bB hn) ?_)
  have hc:s.conts.getD n dCt∈s.conts:=bL hn
  simp only[di]
  generalize s.conts.getD n dCt=c at hc
  have hg1:=hg1 hc
  have hg2:=fun{d:Ct}=>hg2 (d:=d) hc
  have hgi:qQi a.id (ipG a ids).ids c=(c.app==a.id&&!c.master&&uV ids c.id):=rfl
  rw[hgi] at hg1 hg2
  have hnx:w64 ((n:Int)+1)=((n+1:Nat):Int):=aD hn hO.conts
  simp only[aM.2 hT,aW,aK,hg1,hnx]
  cases hap:c.app==a.id with
  | false =>
   refine aV rfl (aV rfl ⟨1,.inr _,?_,rfl⟩)
   exact qMd (fun _=>rfl) fun _=>rfl
  | true =>
   refine bW rfl ?_
   cases hm:c.master with
   | true =>
    refine aV rfl (aV rfl ⟨1,.inr _,?_,rfl⟩)
    exact qMd (fun _=>rfl) fun _=>rfl
   | false =>
    have qi:=zOc ids c.id (by omega)
    refine bW rfl (aH qi.1 ?_)
    simp only[qi.2]
    refine mO.2 ?_
    rw[hm] at hg2
    cases hq:uV ids c.id with
    | false =>
     refine aV rfl ⟨1,.inr _,?_,rfl⟩
     exact qMd (fun _=>aV rfl rfl) fun _=>rfl
    | true =>
     refine aV rfl ?_
     refine qHv os.length (fun i=>(i,())) (fun _=>True) (fun m hm2 _=>.inl ⟨trivial,?_⟩) (fun _=>?_) (i0:=0) trivial (cz _)
     case refine_2=>exact aV bE rfl
     refine bW (aY hm2) (bW rfl (aH (bB hm2) (aV ?_ ?_)))
     ·simp only[di]
      exact hg2 (by rw[hap,hq];rfl) (bL hm2)
     ·rw[dI (by omega) (by omega)];rfl)
end Go.Proofs.YtlmkakccmpncjaaGreatDoor
