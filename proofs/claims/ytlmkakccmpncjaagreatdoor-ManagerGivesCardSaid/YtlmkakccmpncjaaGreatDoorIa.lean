/- Part of the proof: texts Ia Id Hj. No conditions. -/
import Derived.Test.YtlmkakccmpncjaaGreatDoorCl
import Derived.Test.YtlmkakccmpncjaaGreatDoorVi
import Derived.Test.YtlmkakccmpncjaaGreatDoorBn
set_option linter.all false
noncomputable section
namespace Go.Proofs.YtlmkakccmpncjaaGreatDoor
open Go Go.W Go.Proofs
set_option maxRecDepth 100000
abbrev Ko:=bC aC
def qOm(ex:Nat→ExR aC.T)(L J:Nat→St aC.T→Option (List Ld))(f:Nat)(ka kr:List Kd)(a:Ka ka):DT (Ka kr):=match Tryz.prog.funcs[f]? with
 | some fn=>qI3 aC Tryz.prog ex 1000 L J fn (qDQ aC ka a) ⟨.e,0,[]⟩ (zAw aC kr)
 | none=>.bad
def qAy(ex:Nat→ExR aC.T)(L J:Nat→St aC.T→Option (List Ld))(f:Nat)(ka:List Kd)(kr:List Ans)(a:Ka ka):DT (Ko kr):=match Tryz.prog.funcs[f]? with
 | some fn=>qI4 aC Tryz.prog ex 1000 L J fn (qDQ aC ka a) ⟨.e,0,[]⟩ (zMj aC kr)
 | none=>.bad
def qCG(ka:List Kd)(kr:List Ans)(pre:Ka ka→Bool)(M:Ka ka→Ko kr)(hk:ka.all dA=true):TB:=(qEv aC ka kr pre M).con (pI ka kr pre M hk)
abbrev qEI(ex:Nat→ExR aC.T):Prop:=∀nt,nt≤1000000→qBH Tryz.prog nt (ex nt)
theorem zHv{f:Nat}(ht:(match Tryz.prog.funcs[f]? with | some fn=>!fn.body.isNone | none=>false)=true):∃fn,Tryz.prog.funcs[f]? = some fn:=by
 split at ht
 ·rename_i fn h;exact⟨fn,h⟩
 ·cases ht
theorem qPW{ex:Nat→ExR aC.T}(hex:qEI ex){L J:Nat→St aC.T→Option (List Ld)}{f:Nat}(ht:(match Tryz.prog.funcs[f]? with | some fn=>!fn.body.isNone | none=>false)=true){ka kr:List Kd}(hkr:kr.all dA=true){pre:Ka ka→Bool}{M:Ka ka→Ka kr}
  (h:∀a,pre a=true→(qOm ex L J f ka kr a).G (M a)):yN Tryz.prog f (qBJ aC ka kr pre M):=by
 obtain⟨fn,hfn⟩:=zHv ht
 refine qUL (fuel:=1000) (L:=L) (J:=J) hex hfn (there f ht) hkr fun a ha=>?_
 have:= h a ha
 unfold qOm at this
 rw[hfn] at this
 exact this
theorem yY{ex:Nat→ExR aC.T}(hex:qEI ex){L J:Nat→St aC.T→Option (List Ld)}{f:Nat}(ht:(match Tryz.prog.funcs[f]? with | some fn=>!fn.body.isNone | none=>false)=true){ka:List Kd}{kr:List Ans}(hne:kr≠[])(hly:∀x,qPa aC kr x=true){pre:Ka ka→Bool}{M:Ka ka→Ko kr}
  (h:∀a,pre a=true→(qAy ex L J f ka kr a).G (M a)):yN Tryz.prog f (qEv aC ka kr pre M):=by
 obtain⟨fn,hfn⟩:=zHv ht
 refine qUM (fuel:=1000) (L:=L) (J:=J) hex hfn (there f ht) hne hly fun a ha=>?_
 have:= h a ha
 unfold qAy at this
 rw[hfn] at this
 exact this
theorem qL0{α β:Type}{t:α→DT β}{u:α→Option β}(hu:u=hide fun a=>(t a).val)(d:β)(a:α)(ha:(u a).isSome=true):(t a).G ((u a).getD d):=by
 rw[hu,qAI] at ha ⊢
 exact DT.qQR ha
theorem zPk{ex:Nat→ExR aC.T}(hex:qEI ex){L J:Nat→St aC.T→Option (List Ld)}{f:Nat}(ht:(match Tryz.prog.funcs[f]? with | some fn=>!fn.body.isNone | none=>false)=true){ka kr:List Kd}(hk:ka.all dA=true)(hkr:kr.all dA=true)(d:Ka kr){u:Ka ka→Option (Ka kr)}
  (hu:u=hide fun a=>(qOm ex L J f ka kr a).val):aJ f (fzR (con ka kr (fun a=>(u a).isSome) (fun a=>(u a).getD d) hk)) :=
 nV (Spec.nT (qPW hex ht hkr (fun a ha=>qL0 hu d a ha)) (qFv ka kr _ _ hk) fun _=>cz _)
theorem zNm{ex:Nat→ExR aC.T}(hex:qEI ex){L J:Nat→St aC.T→Option (List Ld)}{f:Nat}(ht:(match Tryz.prog.funcs[f]? with | some fn=>!fn.body.isNone | none=>false)=true){ka kr:List Kd}(hk:ka.all dA=true)(hkr:kr.all dA=true)(d:Ka kr){u:Ka ka→Option (Ka kr)}
  (hu:u=hide fun a=>(qOm ex L J f ka kr a).val) (hfl:∀a:Ka ka,qDY (encR aC kr ((u a).getD d))=true):aJ f (eD aC ka kr (fun a=>(u a).isSome) (fun a=>(u a).getD d)) :=
 qX9 (qPW hex ht hkr (fun a ha=>qL0 hu d a ha)) hk hfl
theorem zPl{ex:Nat→ExR aC.T}(hex:qEI ex){L J:Nat→St aC.T→Option (List Ld)}{f:Nat}(ht:(match Tryz.prog.funcs[f]? with | some fn=>!fn.body.isNone | none=>false)=true){ka:List Kd}{kr:List Ans}(hk:ka.all dA=true)(hne:kr≠[])(hly:∀x,qPa aC kr x=true)(d:Ko kr){u:Ka ka→Option (Ko kr)}
  (hu:u=hide fun a=>(qAy ex L J f ka kr a).val):aJ f (fzR (qCG ka kr (fun a=>(u a).isSome) (fun a=>(u a).getD d) hk)) :=
 nV (Spec.nT (yY hex ht hne hly (fun a ha=>qL0 hu d a ha)) (pI ka kr _ _ hk) fun _=>cz _)
def uX(ex:Nat→ExR aC.T)(L J:Nat→St aC.T→Option (List Ld))(f:Nat)(ka kr:List Kd):Ka ka→Option (Ka kr):=hide fun a=>(qOm ex L J f ka kr a).val
theorem rX{ex:Nat→ExR aC.T}(hex:qEI ex){L J:Nat→St aC.T→Option (List Ld)}{f:Nat}(ht:(match Tryz.prog.funcs[f]? with | some fn=>!fn.body.isNone | none=>false)=true){ka kr:List Kd}(hk:ka.all dA=true)(hkr:kr.all dA=true){d:Ka kr}:aJ f (fzR (con ka kr (fun a=>(uX ex L J f ka kr a).isSome) (fun a=>(uX ex L J f ka kr a).getD d) hk)):=zPk hex ht hk hkr d rfl
theorem rXb{ex:Nat→ExR aC.T}(hex:qEI ex){L J:Nat→St aC.T→Option (List Ld)}{f:Nat}(ht:(match Tryz.prog.funcs[f]? with | some fn=>!fn.body.isNone | none=>false)=true){ka kr:List Kd}(hk:ka.all dA=true)(hkr:kr.all dA=true){d:Ka kr}(hfl:∀a:Ka ka,qDY (encR aC kr ((uX ex L J f ka kr a).getD d))=true):aJ f (eD aC ka kr (fun a=>(uX ex L J f ka kr a).isSome) (fun a=>(uX ex L J f ka kr a).getD d)):=zNm hex ht hk hkr d rfl hfl
def uO(ex:Nat→ExR aC.T)(L J:Nat→St aC.T→Option (List Ld))(f:Nat)(ka:List Kd)(kr:List Ans):Ka ka→Option (Ko kr):=hide fun a=>(qAy ex L J f ka kr a).val
theorem rO{ex:Nat→ExR aC.T}(hex:qEI ex){L J:Nat→St aC.T→Option (List Ld)}{f:Nat}(ht:(match Tryz.prog.funcs[f]? with | some fn=>!fn.body.isNone | none=>false)=true){ka:List Kd}{kr:List Ans}(hk:ka.all dA=true)(hne:kr≠[])(hly:∀x,qPa aC kr x=true){d:Ko kr}:aJ f (fzR (qCG ka kr (fun a=>(uO ex L J f ka kr a).isSome) (fun a=>(uO ex L J f ka kr a).getD d) hk)):=zPl hex ht hk hne hly d rfl
abbrev CJK:=CJ aC.T
def qMm(c:TB)(j:CJK):Prop:=(∀args h,DT.iJ (j args h))∧∀args h (α:Type) (k:VK×Hp aC.T→DT α) (x:α),(j args h α k).G x→(c args h).K fun r=>(k r).G x
theorem sD{ka kr:List Kd}{pre:Ka ka→Bool}{M:Ka ka→Ka kr}:qMm (eD aC ka kr pre M) (jB aC ka kr pre M):=⟨zMl,fun _ _ _ _ _ h=>zPT h⟩
def jX(ka kr:List Kd)(pre:Ka ka→Bool)(M:Ka ka→Ka kr):CJK:=jS aC ka (fun r=>(encR aC kr r,[])) pre M
def jO(ka:List Kd)(kr:List Ans)(pre:Ka ka→Bool)(M:Ka ka→Ko kr):CJK:=jS aC ka (fun r=>(qJR aC kr r,(kT aC kr r).map some)) pre M
theorem zHw{ka kr:List Kd}{pre:Ka ka→Bool}{M:Ka ka→Ka kr}(hk:ka.all dA=true):qMm (fzR (con ka kr pre M hk)) (jX ka kr pre M):=⟨zDE,fun _ _ _ _ _ h=>zPU hk h⟩
theorem qL1{ka:List Kd}{kr:List Ans}{pre:Ka ka→Bool}{M:Ka ka→Ko kr}(hk:ka.all dA=true):qMm (fzR (qCG ka kr pre M hk)) (jO ka kr pre M):=⟨zDE,fun _ _ _ _ _ h=>zPV hk h⟩
def qTJ{α:Type 1}:List (Nat×α)→Nat→Option α
 | [],_=>none
 | (i,x)::l,j=>(match Nat.beq i j with | true=>some x | false=>qTJ l j)
abbrev T3:=List (Nat×TB×Option CJK)
def qDS(l:T3):Prop:=∀f c jo,qTJ l f=some (c,jo)→aJ f c∧∀j,jo=some j→qMm c j
theorem uH:qDS []:=fun f c jo h=>by cases h
theorem aZ{f:Nat}{c:TB}{jo:Option CJK}{l:T3}(h:aJ f c)(hj:∀j,jo=some j→qMm c j)(hl:qDS l):qDS ((f,c,jo)::l):=by
 intro g c' jo' hg
 simp only[qTJ] at hg
 split at hg
 ·rename_i hb
  cases hg
  rw[←cu hb]
  exact⟨h,hj⟩
 ·exact hl g c' jo' hg
theorem mW{c:TB}:∀j,(none:Option CJK)=some j→qMm c j:=fun _ h=>by cases h
theorem tX{c:TB}{j:CJK}(h:qMm c j):∀j',some j=some j'→qMm c j':=fun _ e=>by cases e;exact h
def qEJ(l:T3)(K:Con aC.T):Con aC.T:=fun f=>match qTJ l f with | some (c,_)=>some c | none=>K f
def cj3(l:T3)(K:FuncId→Option CJK):FuncId→Option CJK:=fun f=>match qTJ l f with | some (_,jo)=>jo | none=>K f
def qBk(C:Con aC.T)(cj:FuncId→Option CJK):Prop:=iH Tryz.prog C∧∀f j,cj f=some j→∃c,C f=some c∧qMm c j
theorem qL2:qBk (fun _=>none) (fun _=>none):=⟨(fun f S h=>by cases h),(fun f j h=>by cases h)⟩
theorem nO{l:T3}{K:Con aC.T}{cj:FuncId→Option CJK}(hl:qDS l)(hK:qBk K cj):qBk (qEJ l K) (cj3 l cj):=by
 refine⟨fun f S hS=>?_,fun f j hj=>?_⟩
 ·unfold qEJ at hS
  split at hS
  ·rename_i c jo hc;cases hS;exact(hl f _ jo hc).1
  ·exact hK.1 f S hS
 ·unfold cj3 at hj
  unfold qEJ
  split at hj
  ·rename_i c jo hc;exact⟨c,rfl,(hl f c jo hc).2 j hj⟩
  ·exact hK.2 f j hj
theorem qPX{C:Con aC.T}{cj:FuncId→Option CJK}(h:qBk C cj){fuel n:Nat}:qUJ (hdT aC Tryz.prog C (fun _=>false) fuel (n+1)) cj:=by
 intro f c hc
 obtain⟨S,h1,h2,h3⟩:=h.2 f c hc
 refine⟨h2,fun args h α k x hx=>?_⟩
 simp only[hdT,h1]
 exact h3 args h α k x hx
def zHx(ex:Nat→ExR aC.T)(L J:Nat→St aC.T→Option (List Ld))(f p n:Nat)(ka kr ku:List Ans)(a:Ko ka):DT (Ko kr×Ko ku):=match Tryz.prog.funcs[f]? with
 | some fn=>qI5 aC Tryz.prog p ex 1000 L J fn (bC.enc aC ka a) (hpA aC n ka a) (zIU aC kr ku)
 | none=>.bad
theorem zPm{ex:Nat→ExR aC.T}(hex:qEI ex){L J:Nat→St aC.T→Option (List Ld)}{f p n c:Nat}(ht:(match Tryz.prog.funcs[f]? with | some fn=>!fn.body.isNone | none=>false)=true){ka kr ku:List Ans}(d:Ko kr×Ko ku){u:Ko ka→Option (Ko kr×Ko ku)}
  (hu:u=hide fun a=>(zHx ex L J f p n ka kr ku a).val):aJ f (qHa aC p n c ka kr ku (fun a=>(u a).isSome) (fun a=>(u a).getD d)):=by
 obtain⟨fn,hfn⟩:=zHv ht
 refine zIV (zDI (fuel:=1000) (L:=L) (J:=J) hex hfn (there f ht) fun a ha=>?_)
 have:= qL0 hu d a ha
 unfold zHx at this
 rw[hfn] at this
 exact this
def uP(ex:Nat→ExR aC.T)(L J:Nat→St aC.T→Option (List Ld))(f p n:Nat)(ka kr ku:List Ans):Ko ka→Option (Ko kr×Ko ku):=hide fun a=>(zHx ex L J f p n ka kr ku a).val
theorem rP{ex:Nat→ExR aC.T}(hex:qEI ex){L J:Nat→St aC.T→Option (List Ld)}{f p n c:Nat}(ht:(match Tryz.prog.funcs[f]? with | some fn=>!fn.body.isNone | none=>false)=true){ka kr ku:List Ans}{d:Ko kr×Ko ku}:aJ f (qHa aC p n c ka kr ku (fun a=>(uP ex L J f p n ka kr ku a).isSome) (fun a=>(uP ex L J f p n ka kr ku a).getD d)):=zPm hex ht d rfl
theorem qH6{p n c:Nat}{ka kr ku:List Ans}{pre:Ko ka→Bool}{M:Ko ka→Ko kr×Ko ku}:qMm (qHa aC p n c ka kr ku pre M) (jA aC p n c ka kr ku pre M):=⟨zMn,fun _ _ _ _ _ h=>zPW h⟩
def nl{α:Type}(x:List α):Bool:=(0+x.length).ble x.length&&true&&true
def wh{α:Type}(x:List α):List α:=aO 0 (0+x.length) x
def okX{α β τ:Type}(t:α×β×List Nd×List Ap×List Ct×List Sl×List Pn×τ):Bool:=t.2.2.1.length.beq t.2.2.1.length&&(t.2.2.2.1.length.beq t.2.2.2.1.length&&(t.2.2.2.2.1.length.beq t.2.2.2.2.1.length&&(t.2.2.2.2.2.1.length.beq t.2.2.2.2.2.1.length&&t.2.2.2.2.2.2.1.length.beq t.2.2.2.2.2.2.1.length)))
def seX{τ:Type}(t:List B×List Qu×List Nd×List Ap×List Ct×List Sl×List Pn×Int×Int×Int×τ):Se:=Se.mk (Cf.mk t.1 t.2.1) (wh t.2.2.1) (wh t.2.2.2.1) (wh t.2.2.2.2.1) (wh t.2.2.2.2.2.1) (wh t.2.2.2.2.2.2.1) t.2.2.2.2.2.2.2.1 t.2.2.2.2.2.2.2.2.1 t.2.2.2.2.2.2.2.2.2.1
def qTK{τ:Type}(s:Int×Int×B×Int×Int×Int×Int×List Ak×Int×Int×List Int×List Int×List Int×List Int×τ):Bool:=s.2.2.2.2.2.2.2.1.length.beq s.2.2.2.2.2.2.2.1.length&&(s.2.2.2.2.2.2.2.2.2.2.1.length.beq s.2.2.2.2.2.2.2.2.2.2.1.length&&(s.2.2.2.2.2.2.2.2.2.2.2.1.length.beq s.2.2.2.2.2.2.2.2.2.2.2.1.length&&(s.2.2.2.2.2.2.2.2.2.2.2.2.1.length.beq s.2.2.2.2.2.2.2.2.2.2.2.2.1.length&&s.2.2.2.2.2.2.2.2.2.2.2.2.2.1.length.beq s.2.2.2.2.2.2.2.2.2.2.2.2.2.1.length)))
@[simp] theorem qBu{α:Type}(x:List α):nl x=true:=by simp[nl]
@[simp] theorem qBv{α:Type}(x:List α):wh x=x:=by simp[wh,aO]
@[simp] theorem jI{α β τ:Type}(t:α×β×List Nd×List Ap×List Ct×List Sl×List Pn×τ):okX t=true:=by simp[okX]
@[simp] theorem qPY{τ:Type}(s:Int×Int×B×Int×Int×Int×Int×List Ak×Int×Int×List Int×List Int×List Int×List Int×τ):qTK s=true:=by simp[qTK]
def kV(v:VK)(e:Nat):Kd:=match v with
 | .d (.int k _)=>.int k
 | .d (.bool _)=>.bool
 | .d (.str _)=>.str
 | .d (.sl e' _)=>.dat e'
 | .sl i _ _ _=>.own i (Nat.mod e 1000000) (Nat.ble 1000000 e)
 | _=>.dat (Nat.mod e 1000000)
def zKq:List VK→List Nat→List Kd
 | [],_=>[]
 | v::vs,[]=>kV v 0::zKq vs []
 | v::vs,e::es=>kV v e::zKq vs es
def zKr(st:St aC.T)(t:Nat)(es:List Nat):List Ld:=match st.env.get t with
 | some (.ptr i _ _)=>(match st.hp.get i with
  | some (.rows _ [cs])=>[.obj i (zKq cs es)]
  | _=>[])
 | _=>[]
def zPn(st:St aC.T)(t:Nat):List Ld:=match st.env.get t with
 | some (.ptr i _ _)=>(match st.hp.get i with
  | some (.rows _ [cs])=>cs.foldr (fun v l=>match v with | .sl j _ _ _=>.gone j::l | _=>l) []
  | _=>[])
 | _=>[]
def hS:List Nat:=[9,79,53,43,46,91,55]
def hA:List Nat:=[0,0,0,0,0,0,0,131,0,0,3,3,3,3]
def hAg:List Nat:=[0,0,0,0,0,0,0,131,0,0,1000000+3,3,3,3]
def hO:List Nat:=[0,46,3,3,0]
def zHy(l:List Nat):List VK→Bool
 | []=>false
 | .fn f _ _::vs=>(match kN l f with | true=>true | false=>zHy l vs)
 | _::vs=>zHy l vs
def zHz(tab:List (Nat×Option (List Kd)))(wr:List Nat)(f:FuncId)(args:List VK):Option (Option (List Kd)):=match bV tab f with
 | some (some kr)=>(match zHy wr args with | true=>some none | false=>some (some kr))
 | x=>x
def exN(hd:Hd aC.T)(cj:FuncId→Option CJK)(inl:FuncId→List VK→Option (Option (List Kd)))(L J:FuncId→Nat→St aC.T→Option (List Ld))(n:Nat):Nat→ExR aC.T:=fun nt=>exC aC Tryz.prog (hcN aC Tryz.prog hd cj inl 1000 L J n) nt
theorem qWI{hd:Hd aC.T}(hHd:bI Tryz.prog hd){cj:FuncId→Option CJK}(hcj:qUJ hd cj){inl:FuncId→List VK→Option (Option (List Kd))}{L J:FuncId→Nat→St aC.T→Option (List Ld)}{n:Nat}:qEI (exN hd cj inl L J n):=fun _ hnt=>qBI mixed (zA1 mixed hno hHd hcj n) hnt fun _ _ _ _ _ _ h=>zD8 (qOZ hcj n) h
def qCH:Nat→ExR aC.T:=fun nt=>exB aC Tryz.prog nt (exD aC Tryz.prog hd0 nt)
theorem nG:qEI qCH:=fun _ hnt=>zMm hnt (qBI mixed eF hnt fun _ _ _ _ _ _ h=>qQL (DT.iE h))
def qG0:TB:=fun _ _=>.bad
theorem qH7{f:FuncId}:aJ f qG0:=fun _ _ _ h=>h.elim
open Go.W.DT (ret need br both)
def lS{α:Type}(b:Nat)(xs:List α):DT (List α×Unit) :=
 let +zeta c:=[]++xs;let +zeta a:=0+xs.length;br (xs.length.beq 0) (both (ret ([],())) (need (aT a b&&true) (need (a.beq c.length) (ret (c,()))))) (need (aT a b&&true) (need (a.beq c.length) (ret (c,()))))

def qL3{α:Type}(b:Nat)(xs:List α):DT (List α×Unit) :=
 let +zeta a:=0+xs.length;let +zeta d:=aO 0 (0+a) ([]++xs);let +zeta c:=(0+a).ble ([]++xs).length;br (xs.length.beq 0) (both (ret ([],())) (need (aT a b&&true) (need c (ret (d,()))))) (need (aT a b&&true) (need c (ret (d,()))))

theorem qC{α:Type}{b:Nat}{xs:List α}(h:aT xs.length b=true):(lS b xs).G (xs,()):=by
 unfold lS
 simp only[dm,l6,h,fq,lg]
 cases hx:xs.length.beq 0 with
 | true =>
  have: xs=[]:=ko (cu hx)
  subst this
  exact⟨rfl,rfl⟩
 | false=>rfl
theorem zH0{α:Type}{b:Nat}{xs:List α}(h:aT xs.length b=true):(qL3 b xs).G (xs,()):=by
 unfold qL3
 have e:aO 0 xs.length xs=xs:=by simp[aO]
 simp only[dm,l6,h,fq,ik (df _),e]
 cases hx:xs.length.beq 0 with
 | true =>
  have: xs=[]:=ko (cu hx)
  subst this
  exact⟨rfl,rfl⟩
 | false=>rfl
theorem zCn(xs:List Nd)(r:List Nd×Unit):(qAy qCH noL noL 143 [.dat 53] [.one (.own 0 53 false)] (xs,())).G r=(lS 64 xs).G r:=by kernel_rfl
def qOn:TB:=fzR (qCG [.dat 53] [.one (.own 0 53 false)] (fun a=>aT (List.length a.1) 64) (fun a=>(a.1,())) rfl)
theorem zCo:aJ 143 qOn:=nV (Spec.nT (yY nG (L:=noL) (J:=noL) (ka:=[.dat 53]) (kr:=[.one (.own 0 53 false)]) (by kernel_rfl) (by simp) (fun _=>rfl) fun a ha=>Eq.mpr (zCn a.1 _) (qC ha)) (pI _ _ _ _ rfl) fun _=>cz _)
theorem zCp(xs:List Ct)(r:List Ct×Unit):(qAy qCH noL noL 144 [.dat 46] [.one (.own 0 46 false)] (xs,())).G r=(lS 72 xs).G r:=by kernel_rfl
def qOo:TB:=fzR (qCG [.dat 46] [.one (.own 0 46 false)] (fun a=>aT (List.length a.1) 72) (fun a=>(a.1,())) rfl)
theorem zCq:aJ 144 qOo:=nV (Spec.nT (yY nG (L:=noL) (J:=noL) (ka:=[.dat 46]) (kr:=[.one (.own 0 46 false)]) (by kernel_rfl) (by simp) (fun _=>rfl) fun a ha=>Eq.mpr (zCp a.1 _) (qC ha)) (pI _ _ _ _ rfl) fun _=>cz _)
theorem zCr(xs:List Sl)(r:List Sl×Unit):(qAy qCH noL noL 145 [.dat 91] [.one (.own 0 91 false)] (xs,())).G r=(lS 24 xs).G r:=by kernel_rfl
def qOq:TB:=fzR (qCG [.dat 91] [.one (.own 0 91 false)] (fun a=>aT (List.length a.1) 24) (fun a=>(a.1,())) rfl)
theorem zCs:aJ 145 qOq:=nV (Spec.nT (yY nG (L:=noL) (J:=noL) (ka:=[.dat 91]) (kr:=[.one (.own 0 91 false)]) (by kernel_rfl) (by simp) (fun _=>rfl) fun a ha=>Eq.mpr (zCr a.1 _) (qC ha)) (pI _ _ _ _ rfl) fun _=>cz _)
theorem zCt(xs:List Pn)(r:List Pn×Unit):(qAy qCH noL noL 146 [.dat 55] [.one (.own 0 55 false)] (xs,())).G r=(lS 48 xs).G r:=by kernel_rfl
def qOr:TB:=fzR (qCG [.dat 55] [.one (.own 0 55 false)] (fun a=>aT (List.length a.1) 48) (fun a=>(a.1,())) rfl)
theorem zCu:aJ 146 qOr:=nV (Spec.nT (yY nG (L:=noL) (J:=noL) (ka:=[.dat 55]) (kr:=[.one (.own 0 55 false)]) (by kernel_rfl) (by simp) (fun _=>rfl) fun a ha=>Eq.mpr (zCt a.1 _) (qC ha)) (pI _ _ _ _ rfl) fun _=>cz _)
theorem zCv(xs:List Ap)(r:List Ap×Unit):(qAy qCH noL noL 147 [.dat 43] [.one (.own 0 43 false)] (xs,())).G r=(lS 200 xs).G r:=by kernel_rfl
def qOs:TB:=fzR (qCG [.dat 43] [.one (.own 0 43 false)] (fun a=>aT (List.length a.1) 200) (fun a=>(a.1,())) rfl)
theorem zCw:aJ 147 qOs:=nV (Spec.nT (yY nG (L:=noL) (J:=noL) (ka:=[.dat 43]) (kr:=[.one (.own 0 43 false)]) (by kernel_rfl) (by simp) (fun _=>rfl) fun a ha=>Eq.mpr (zCv a.1 _) (qC ha)) (pI _ _ _ _ rfl) fun _=>cz _)
theorem zCx(xs:List Qu)(r:List Qu×Unit):(qAy qCH noL noL 141 [.dat 79] [.one (.own 0 79 false)] (xs,())).G r=(lS 48 xs).G r:=by kernel_rfl
def qOt:TB:=fzR (qCG [.dat 79] [.one (.own 0 79 false)] (fun a=>aT (List.length a.1) 48) (fun a=>(a.1,())) rfl)
theorem zCy:aJ 141 qOt:=nV (Spec.nT (yY nG (L:=noL) (J:=noL) (ka:=[.dat 79]) (kr:=[.one (.own 0 79 false)]) (by kernel_rfl) (by simp) (fun _=>rfl) fun a ha=>Eq.mpr (zCx a.1 _) (qC ha)) (pI _ _ _ _ rfl) fun _=>cz _)
theorem zCz(xs:List Ak)(r:List Ak×Unit):(qAy qCH noL noL 216 [.dat 131] [.one (.own 0 131 false)] (xs,())).G r=(lS 64 xs).G r:=by kernel_rfl
def qOu:TB:=fzR (qCG [.dat 131] [.one (.own 0 131 false)] (fun a=>aT (List.length a.1) 64) (fun a=>(a.1,())) rfl)
theorem zC0:aJ 216 qOu:=nV (Spec.nT (yY nG (L:=noL) (J:=noL) (ka:=[.dat 131]) (kr:=[.one (.own 0 131 false)]) (by kernel_rfl) (by simp) (fun _=>rfl) fun a ha=>Eq.mpr (zCz a.1 _) (qC ha)) (pI _ _ _ _ rfl) fun _=>cz _)
theorem zC1(xs:List Cp)(r:List Cp×Unit):(qOm qCH noL noL 142 [.dat 76] [.dat 76] (xs,())).G r=(qL3 16 xs).G r:=by kernel_rfl
def qOv:TB:=fzR (con [.dat 76] [.dat 76] (fun a=>aT (List.length a.1) 16) (fun a=>(a.1,())) rfl)
theorem zC2:aJ 142 qOv:=nV (Spec.nT (qPW nG (L:=noL) (J:=noL) (ka:=[.dat 76]) (kr:=[.dat 76]) (by kernel_rfl) rfl fun a ha=>Eq.mpr (zC1 a.1 _) (zH0 ha)) (qFv _ _ _ _ rfl) fun _=>cz _)
theorem qWJ(xs:List B)(r:List B×Unit):(qAy qCH noL noL 140 [.dat 9] [.one (.own 0 9 false)] (xs,())).G r=(lS 16 xs).G r:=by kernel_rfl
def qL4:TB:=fzR (qCG [.dat 9] [.one (.own 0 9 false)] (fun a=>aT (List.length a.1) 16) (fun a=>(a.1,())) rfl)
theorem qWK:aJ 140 qL4:=nV (Spec.nT (yY nG (L:=noL) (J:=noL) (ka:=[.dat 9]) (kr:=[.one (.own 0 9 false)]) (by kernel_rfl) (by simp) (fun _=>rfl) fun a ha=>Eq.mpr (qWJ a.1 _) (qC ha)) (pI _ _ _ _ rfl) fun _=>cz _)
theorem qWL(xs:List Int)(r:List Int×Unit):(qAy qCH noL noL 161 [.dat 3] [.one (.own 0 3 false)] (xs,())).G r=(lS 8 xs).G r:=by kernel_rfl
def qL5:TB:=fzR (qCG [.dat 3] [.one (.own 0 3 false)] (fun a=>aT (List.length a.1) 8) (fun a=>(a.1,())) rfl)
theorem qWM:aJ 161 qL5:=nV (Spec.nT (yY nG (L:=noL) (J:=noL) (ka:=[.dat 3]) (kr:=[.one (.own 0 3 false)]) (by kernel_rfl) (by simp) (fun _=>rfl) fun a ha=>Eq.mpr (qWL a.1 _) (qC ha)) (pI _ _ _ _ rfl) fun _=>cz _)
end Go.Proofs.YtlmkakccmpncjaaGreatDoor
namespace Go.Proofs.YtlmkakccmpncjaaGreatDoor
open Go Go.W Go.Proofs
open Go.W.DT (ret need br both bad loop join)
set_option maxRecDepth 100000
def zL7{α:Type}(d:α)(b:Nat)(l:List α)(i:Int)(j:Int):DT ((List α×Unit)×Unit) :=
 let +zeta u:=i-0;let +zeta n:=l.length;let +zeta f:=0;let +zeta v:=Nat.max f n-f;let +zeta t:=(↑(Nat.max f n):Int);let +zeta k:=f+u.toNat;let +zeta e:=(↑n:Int);let +zeta y:=e-j;let +zeta z:=y.toNat;let +zeta s:=bG l k (@bF α (f+j.toNat) z l);let +zeta o:=@bF α f u.toNat l ++ @bF α (f+j.toNat) z l;let +zeta a:=u.toNat+z;let +zeta m:=(↑a:Int);let +zeta x:=f+m.toNat+(e-m).toNat;let +zeta r:=decide (m≤e)&&decide (e≤(↑(Nat.max f a):Int));let +zeta q:=@bF α f (e-m).toNat (List.replicate (e-m).toNat d);let +zeta h:=x.ble o.length&&true&&true&&true;let +zeta g:=bG s (f+m.toNat) q;let +zeta c:=bG o (f+m.toNat) q;need (inB i j e&&decide (e≤t)&&decide (i<e)) (br (i==j) (need (n.ble n) (ret ((List.take n l,()),()))) (need (decide (0≤i)&&decide (i≤t)) (need (inB j e t) (need ((f+j.toNat+z).ble n) (br (v.beq f) (need (k.beq n) (need (aT a b&&k.ble n) (need r (need h (need (a.ble c.length) (ret ((List.take a c,()),()))))))) (br (a.ble v) (need ((f+u.toNat+z).ble n) (need (decide (m≤e)&&decide (e≤(↑(v.max a):Int))) (need (x.ble s.length&&true&&true&&true) (need (a.ble g.length) (ret ((List.take a g,()),())))))) (need (k.beq n) (need (aT a b&&k.ble n) (need r (need h (need (a.ble c.length) (ret ((List.take a c,()),())))))))))))))

theorem qEK{a b:Nat}(h:a≤b):Nat.ble a b=true:=ik h
theorem qWN{α:Type}{l:List α}{n:Nat}{xs:List α}(h:n+xs.length≤l.length):(bG l n xs).length=l.length:=by
 simp[bG];omega
theorem zPo{α:Type}{d:α}{b n:Nat}{l:List α}(h:n<l.length):(zL7 d b l (n:Int) ((n+1:Nat):Int)).G ((l.eraseIdx n,()),()):=by
 unfold zL7
 have e1:((n:Int)-0).toNat=n:=by omega
 have e2:((l.length:Int)-((n+1:Nat):Int)).toNat=l.length-(n+1):=by omega
 have e4:Nat.max 0 l.length=l.length:=by simp
 have e6:n+(l.length-(n+1))=l.length-1:=by omega
 have hc:(bF (n+1) (l.length-(n+1)) l)=l.drop (n+1):=kz (by simp)
 have hz:bF 0 1 (List.replicate 1 d)=[d]:=rfl
 have l1:(bG l n (l.drop (n+1))).length=l.length:=qWN (by simp;omega)
 have l2:(bG (bG l n (l.drop (n+1))) (l.length-1) [d]).length=l.length:=(qWN (by rw[l1];simp;omega)).trans l1
 have e7:((l.length:Int)-((l.length-1:Nat):Int)).toNat=1:=by omega
 simp only[e1,e2,e4,di,dm,uj,e6,e7,hc,hz]
 refine aH ?_ (aV ?_ (aH ?_ (aH ?_ (aH (qEK (by omega)) (aV ?_ (bW (qEK (by omega)) (aH (qEK (by omega)) (aH ?_ (aH ?_ (aH (qEK (by rw[l2];omega)) ?_))))))))))
 ·simp only[inB,bn,decide_eq_true_eq];omega
 ·simp;omega
 ·simp only[bn,decide_eq_true_eq];omega
 ·simp only[inB,bn,decide_eq_true_eq];omega
 ·cases hb:l.length.beq 0 with
  | false=>rfl
  | true=>have:= cu hb;omega
 ·have: l.length.max (l.length-1)=l.length:=by show max _ _=_;omega
  simp only[this,bn,decide_eq_true_eq];omega
 ·simp only[fq];exact qEK (by rw[l1];omega)
 ·refine congrArg (fun x=>((x,()),())) ?_
  rw[List.eraseIdx_eq_take_drop_succ]
  have h3:(l.take n++l.drop (n+1)).length=l.length-1:=by simp;omega
  have h4:bG l n (l.drop (n+1))=(l.take n++l.drop (n+1))++l.drop (n+(l.drop (n+1)).length):=by simp[bG]
  rw[h4,bG,List.take_append_of_le_length (by rw[ed,dh,h3];omega),List.take_take,←h3,Nat.min_self,List.take_left']
  rfl
end Go.Proofs.YtlmkakccmpncjaaGreatDoor
namespace Go.Proofs.YtlmkakccmpncjaaGreatDoor
open Go Go.W Go.Proofs
set_option maxRecDepth 100000
abbrev stA:Ans:=.st [.dat 9,.dat 79,.own 0 53 false,.own 1 43 false,.own 2 46 false,.own 3 91 false,.own 4 55 false,.int .i64,.int .i64,.int .i64]
abbrev StT:=List B×List Qu×List Nd×List Ap×List Ct×List Sl×List Pn×Int×Int×Int×Unit
abbrev stD:StT:=([],[],[],[],[],[],[],0,0,0,())
abbrev apA:Ans:=.st [.int .i64,.int .i64,.str,.int .i64,.int .i64,.int .i64,.int .i64,.own 0 131 false,.int .i64,.int .i64,.own 1 3 false,.own 2 3 false,.own 3 3 false,.own 4 3 false]
abbrev ApT:=Int×Int×B×Int×Int×Int×Int×List Ak×Int×Int×List Int×List Int×List Int×List Int×Unit
abbrev apD:ApT:=(0,0,[],0,0,0,0,[],0,0,[],[],[],[],())
abbrev stX(b:Nat):List Kd:=[.dat 9,.dat 79,.own b 53 false,.own (b+1) 43 false,.own (b+2) 46 false,.own (b+3) 91 false,.own (b+4) 55 false,.int .i64,.int .i64,.int .i64,.rcd 57]
abbrev StX:=List B×List Qu×List Nd×List Ap×List Ct×List Sl×List Pn×Int×Int×Int×Ip×Unit
abbrev zH1:StX:=([],[],[],[],[],[],[],0,0,0,dIp,())
abbrev apX(b:Nat):List Kd:=[.int .i64,.int .i64,.str,.int .i64,.int .i64,.int .i64,.int .i64,.own b 131 false,.int .i64,.int .i64,.own (b+1) 3 false,.own (b+2) 3 false,.own (b+3) 3 false,.own (b+4) 3 false]
abbrev zNn(b:Nat):List Kd:=[.int .i64,.int .i64,.str,.int .i64,.int .i64,.int .i64,.int .i64,.own b 131 false,.int .i64,.int .i64,.own (b+1) 3 true,.own (b+2) 3 false,.own (b+3) 3 false,.own (b+4) 3 false]
abbrev zQb:List Kd:=[.int .i64,.int .i64,.str,.int .i64,.int .i64,.int .i64,.int .i64,.dat 131,.int .i64,.int .i64,.dat 3,.dat 3,.dat 3,.dat 3]
def qZl(st:St aC.T)(t:Nat):List Ld:=match st.env.get t with
 | some (.ptr i _ _)=>(match st.hp.get i with
  | some (.rows _ [cs])=>[.obj i (zKq (cs.take 10) hS++[.rcd 57])]
  | _=>[])
 | _=>[]
def hX:List Nat:=hS++[0,0,0,0,0,0,0,0,0,0,0,0,0,0,0,0,0,0,0,0,0,0,0,131,0,0,3,3,3,3,131,3]
def zQc:=ljT [(2,fun st=>[si 8])]
def zQd:=ljT [(2,fun st=>[si 8])]
def zQe:=ljT [(2,fun st=>[si 8])]
def zQf:=ljT [(5,fun st=>[si 5,si 6]++qMF st 0 3)]
def zQg:=ljT [(6,fun st=>[si 6])]
def zQh:=ljT [(8,fun st=>[si 6])]
def zPp:=ljT [(4,fun st=>[si 17])]
def zPq:=ljT [(4,fun st=>[si 17])]
def zQi:List (Nat×Option (List Kd)):=[(150,none),(90,none),(92,none),(149,some [.int .i64]),(58,some [.int .i64]),(232,some [.int .i64]),(160,none),(169,none),(59,none),(66,none),(75,none),(240,none),(241,none),(34,some [.bool]),(103,some [.bool])]
def zQj:FuncId→List VK→Option (Option (List Kd)):=zHz zQi []
def LWs:List (Nat×(Nat→St aC.T→Option (List Ld))):=[(149,zQc),(58,zQd),(232,zQe),(160,zQf),(169,zQg),(34,zPp),(103,zPq)]
def JWs:List (Nat×(Nat→St aC.T→Option (List Ld))):=[(169,zQh)]
def LWf(f:FuncId)(id:Nat)(st:St aC.T):Option (List Ld):=match bV LWs f with | some L=>L id st | none=>none
def JWf(f:FuncId)(id:Nat)(st:St aC.T):Option (List Ld):=match bV JWs f with | some L=>L id st | none=>none
def exI(C:Con aC.T)(cj:FuncId→Option CJK):Nat→ExR aC.T:=exN (hdT aC Tryz.prog C (fun _=>false) 1000 5) cj zQj LWf JWf 8
theorem fO{C:Con aC.T}{cj:FuncId→Option CJK}(h:qBk C cj):qEI (exI C cj):=qWI (bU mixed hno h.1 _ _ _) (qPX h)
def IT0:T3:=[(143,qOn,none),(144,qOo,none),(145,qOq,none),(146,qOr,none),(147,qOs,none),(141,qOt,none),(216,qOu,none),(142,qOv,none),(140,qL4,none),(161,qL5,none),(234,qG0,none),(61,qG0,none),(63,qG0,none),(65,qG0,none),(67,qG0,none),(68,qG0,none),(69,qG0,none),(71,qG0,none),(72,qG0,none),(73,qG0,none),(74,qG0,none),(173,qG0,none),(172,qG0,none)]
theorem zNo:qDS IT0:=aZ zCo mW (aZ zCq mW (aZ zCs mW (aZ zCu mW (aZ zCw mW (aZ zCy mW (aZ zC0 mW (aZ zC2 mW (aZ qWK mW (aZ qWM mW (aZ qH7 mW (aZ qH7 mW (aZ qH7 mW (aZ qH7 mW (aZ qH7 mW (aZ qH7 mW (aZ qH7 mW (aZ qH7 mW (aZ qH7 mW (aZ qH7 mW (aZ qH7 mW (aZ qH7 mW (aZ qH7 mW (uH)))))))))))))))))))))))
def IU0:Con aC.T:=qEJ IT0 (fun _=>none)
def IJ0:FuncId→Option CJK:=cj3 IT0 (fun _=>none)
theorem xA:qBk IU0 IJ0:=nO zNo qL2
def qZm:=uP (exI IU0 IJ0) noL noL 62 0 1 [.one (.own 0 46 false),.one (.int .i64),.one (.int .i64)] [.one (.own 1 46 true)] []
def xB(l:List Ct)(i:Int)(j:Int):Bool:=(qZm (l,i,j,())).isSome
def yF(l:List Ct)(i:Int)(j:Int):(List Ct×Unit)×Unit:=(qZm (l,i,j,())).getD (([],()),())
def qZn:TB:=qHa aC 0 1 1 [.one (.own 0 46 false),.one (.int .i64),.one (.int .i64)] [.one (.own 1 46 true)] [] (fun a=>xB a.1 a.2.1 a.2.2.1) (fun a=>yF a.1 a.2.1 a.2.2.1)
theorem zKs:aJ 62 qZn:=rP (fO xA) (by kernel_rfl)
def zH2:=ljT [(4,fun st=>[si 13])]
def qZo:=uX (exI IU0 IJ0) zH2 noL 102 [.dat 9,.dat 9] [.bool]
def qCI(a:List B)(b:List B):Bool:=(qZo (a,b,())).isSome
def qG1(a:List B)(b:List B):Bool×Unit:=(qZo (a,b,())).getD (false,())
def qZp:TB:=eD aC [.dat 9,.dat 9] [.bool] (fun a=>qCI a.1 a.2.1) (fun a=>qG1 a.1 a.2.1)
theorem zKt:aJ 102 qZp:=rXb (fO xA) (by kernel_rfl) rfl rfl fun _=>rfl
def zH3:=ljT [(4,fun st=>[si 13])]
def qZq:=uX (exI IU0 IJ0) zH3 noL 107 [.dat 3,.dat 3] [.bool]
def tY(a:List Int)(b:List Int):Bool:=(qZq (a,b,())).isSome
def yG(a:List Int)(b:List Int):Bool×Unit:=(qZq (a,b,())).getD (false,())
def qZr:TB:=eD aC [.dat 3,.dat 3] [.bool] (fun a=>tY a.1 a.2.1) (fun a=>yG a.1 a.2.1)
theorem zKu:aJ 107 qZr:=rXb (fO xA) (by kernel_rfl) rfl rfl fun _=>rfl
def zKv:=ljT [(4,fun st=>[si 13])]
def zH4:=uX (exI IU0 IJ0) zKv noL 33 [.dat 53,.dat 53] [.bool]
def qG2(a:List Nd)(b:List Nd):Bool:=(zH4 (a,b,())).isSome
def qL6(a:List Nd)(b:List Nd):Bool×Unit:=(zH4 (a,b,())).getD (false,())
def zH5:TB:=eD aC [.dat 53,.dat 53] [.bool] (fun a=>qG2 a.1 a.2.1) (fun a=>qL6 a.1 a.2.1)
theorem zNp:aJ 33 zH5:=rXb (fO xA) (by kernel_rfl) rfl rfl fun _=>rfl
def zKw:=ljT [(4,fun st=>[si 13])]
def zH6:=uX (exI IU0 IJ0) zKw noL 36 [.dat 46,.dat 46] [.bool]
def qG3(a:List Ct)(b:List Ct):Bool:=(zH6 (a,b,())).isSome
def qL7(a:List Ct)(b:List Ct):Bool×Unit:=(zH6 (a,b,())).getD (false,())
def zH7:TB:=eD aC [.dat 46,.dat 46] [.bool] (fun a=>qG3 a.1 a.2.1) (fun a=>qL7 a.1 a.2.1)
theorem zNq:aJ 36 zH7:=rXb (fO xA) (by kernel_rfl) rfl rfl fun _=>rfl
def zKx:=ljT [(4,fun st=>[si 13])]
def zH8:=uX (exI IU0 IJ0) zKx noL 37 [.dat 91,.dat 91] [.bool]
def qG4(a:List Sl)(b:List Sl):Bool:=(zH8 (a,b,())).isSome
def qL8(a:List Sl)(b:List Sl):Bool×Unit:=(zH8 (a,b,())).getD (false,())
def zH9:TB:=eD aC [.dat 91,.dat 91] [.bool] (fun a=>qG4 a.1 a.2.1) (fun a=>qL8 a.1 a.2.1)
theorem zNr:aJ 37 zH9:=rXb (fO xA) (by kernel_rfl) rfl rfl fun _=>rfl
def zKy:=ljT [(4,fun st=>[si 13])]
def zHA:=uX (exI IU0 IJ0) zKy noL 38 [.dat 55,.dat 55] [.bool]
def qG5(a:List Pn)(b:List Pn):Bool:=(zHA (a,b,())).isSome
def qL9(a:List Pn)(b:List Pn):Bool×Unit:=(zHA (a,b,())).getD (false,())
def zHB:TB:=eD aC [.dat 55,.dat 55] [.bool] (fun a=>qG5 a.1 a.2.1) (fun a=>qL9 a.1 a.2.1)
theorem zNs:aJ 38 zHB:=rXb (fO xA) (by kernel_rfl) rfl rfl fun _=>rfl
def zKz:=ljT [(4,fun st=>[si 13])]
def zHC:=uX (exI IU0 IJ0) zKz noL 106 [.dat 131,.dat 131] [.bool]
def qG6(a:List Ak)(b:List Ak):Bool:=(zHC (a,b,())).isSome
def qLA(a:List Ak)(b:List Ak):Bool×Unit:=(zHC (a,b,())).getD (false,())
def zHD:TB:=eD aC [.dat 131,.dat 131] [.bool] (fun a=>qG6 a.1 a.2.1) (fun a=>qLA a.1 a.2.1)
theorem zNt:aJ 106 zHD:=rXb (fO xA) (by kernel_rfl) rfl rfl fun _=>rfl
def zK0:=ljT [(4,fun st=>[si 13])]
def zHE:=uX (exI IU0 IJ0) zK0 noL 105 [.dat 76,.dat 76] [.bool]
def qG7(a:List Cp)(b:List Cp):Bool:=(zHE (a,b,())).isSome
def qLB(a:List Cp)(b:List Cp):Bool×Unit:=(zHE (a,b,())).getD (false,())
def zHF:TB:=eD aC [.dat 76,.dat 76] [.bool] (fun a=>qG7 a.1 a.2.1) (fun a=>qLB a.1 a.2.1)
theorem zNu:aJ 105 zHF:=rXb (fO xA) (by kernel_rfl) rfl rfl fun _=>rfl
def qZs:=uX (exI IU0 IJ0) noL noL 217 [.dat 3] [.dat 3]
def tZ(l:List Int):Bool:=(qZs (l,())).isSome
def yH(l:List Int):(List Int)×Unit:=(qZs (l,())).getD ([],())
def qZt:TB:=fzR (con [.dat 3] [.dat 3] (fun a=>tZ a.1) (fun a=>yH a.1) rfl)
theorem zK1:aJ 217 qZt:=rX (fO xA) (by kernel_rfl) rfl rfl
def IT1:T3:=[(62,qZn,some (jA aC 0 1 1 [.one (.own 0 46 false),.one (.int .i64),.one (.int .i64)] [.one (.own 1 46 true)] [] (fun a=>xB a.1 a.2.1 a.2.2.1) (fun a=>yF a.1 a.2.1 a.2.2.1))),(102,qZp,some (jB aC [.dat 9,.dat 9] [.bool] (fun a=>qCI a.1 a.2.1) (fun a=>qG1 a.1 a.2.1))),(107,qZr,some (jB aC [.dat 3,.dat 3] [.bool] (fun a=>tY a.1 a.2.1) (fun a=>yG a.1 a.2.1))),(33,zH5,some (jB aC [.dat 53,.dat 53] [.bool] (fun a=>qG2 a.1 a.2.1) (fun a=>qL6 a.1 a.2.1))),(36,zH7,some (jB aC [.dat 46,.dat 46] [.bool] (fun a=>qG3 a.1 a.2.1) (fun a=>qL7 a.1 a.2.1))),(37,zH9,some (jB aC [.dat 91,.dat 91] [.bool] (fun a=>qG4 a.1 a.2.1) (fun a=>qL8 a.1 a.2.1))),(38,zHB,some (jB aC [.dat 55,.dat 55] [.bool] (fun a=>qG5 a.1 a.2.1) (fun a=>qL9 a.1 a.2.1))),(106,zHD,some (jB aC [.dat 131,.dat 131] [.bool] (fun a=>qG6 a.1 a.2.1) (fun a=>qLA a.1 a.2.1))),(105,zHF,some (jB aC [.dat 76,.dat 76] [.bool] (fun a=>qG7 a.1 a.2.1) (fun a=>qLB a.1 a.2.1))),(217,qZt,some (jX [.dat 3] [.dat 3] (fun a=>tZ a.1) (fun a=>yH a.1)))]
theorem zNv:qDS IT1:=aZ zKs (tX qH6) (aZ zKt (tX sD) (aZ zKu (tX sD) (aZ zNp (tX sD) (aZ zNq (tX sD) (aZ zNr (tX sD) (aZ zNs (tX sD) (aZ zNt (tX sD) (aZ zNu (tX sD) (aZ zK1 (tX (zHw rfl)) (uH))))))))))
def IU1:Con aC.T:=qEJ IT1 IU0
def IJ1:FuncId→Option CJK:=cj3 IT1 IJ0
theorem qLC:qBk IU1 IJ1:=nO zNv xA
def qZu:=uX (exI IU1 IJ1) noL noL 35 [.rcd 43,.rcd 43] [.bool]
def qAz(a:Ap)(b:Ap):Bool:=(qZu (a,b,())).isSome
def qDG(a:Ap)(b:Ap):Bool×Unit:=(qZu (a,b,())).getD (false,())
def qZv:TB:=eD aC [.rcd 43,.rcd 43] [.bool] (fun a=>qAz a.1 a.2.1) (fun a=>qDG a.1 a.2.1)
theorem zK2:aJ 35 qZv:=rXb (fO qLC) (by kernel_rfl) rfl rfl fun _=>rfl
def qZw:=uX (exI IU1 IJ1) noL noL 104 [.rcd 79,.rcd 79] [.bool]
def qA0(a:Qu)(b:Qu):Bool:=(qZw (a,b,())).isSome
def qDH(a:Qu)(b:Qu):Bool×Unit:=(qZw (a,b,())).getD (false,())
def qZx:TB:=eD aC [.rcd 79,.rcd 79] [.bool] (fun a=>qA0 a.1 a.2.1) (fun a=>qDH a.1 a.2.1)
theorem zK3:aJ 104 qZx:=rXb (fO qLC) (by kernel_rfl) rfl rfl fun _=>rfl
def zHG:=uX (exI IU1 IJ1) noL noL 148 [.rcd 43] [.rcd 43]
def qDI(a:Ap):Bool:=(zHG (a,())).isSome
def qH8(a:Ap):Ap×Unit:=(zHG (a,())).getD (dAp,())
def zHH:TB:=fzR (con [.rcd 43] [.rcd 43] (fun a=>qDI a.1) (fun a=>qH8 a.1) rfl)
theorem zNw:aJ 148 zHH:=rX (fO qLC) (by kernel_rfl) rfl rfl
def zL8:=uX (exI IU1 IJ1) noL noL 60 [.rcd 37,.int .i64] [.int .i64]
def qEL(s:Se)(id:Int):Bool:=(zL8 (s,id,())).isSome
def qLD(s:Se)(id:Int):Int×Unit:=(zL8 (s,id,())).getD ((0:Int),())
def zL9:TB:=eD aC [.rcd 37,.int .i64] [.int .i64] (fun a=>qEL a.1 a.2.1) (fun a=>qLD a.1 a.2.1)
theorem zPr:aJ 60 zL9:=rXb (fO qLC) (by kernel_rfl) rfl rfl fun _=>rfl
def IT2:T3:=[(35,qZv,some (jB aC [.rcd 43,.rcd 43] [.bool] (fun a=>qAz a.1 a.2.1) (fun a=>qDG a.1 a.2.1))),(104,qZx,some (jB aC [.rcd 79,.rcd 79] [.bool] (fun a=>qA0 a.1 a.2.1) (fun a=>qDH a.1 a.2.1))),(148,zHH,some (jX [.rcd 43] [.rcd 43] (fun a=>qDI a.1) (fun a=>qH8 a.1))),(60,zL9,some (jB aC [.rcd 37,.int .i64] [.int .i64] (fun a=>qEL a.1 a.2.1) (fun a=>qLD a.1 a.2.1)))]
theorem zNx:qDS IT2:=aZ zK2 (tX sD) (aZ zK3 (tX sD) (aZ zNw (tX (zHw rfl)) (aZ zPr (tX sD) (uH))))
def IU2:Con aC.T:=qEJ IT2 IU1
def IJ2:FuncId→Option CJK:=cj3 IT2 IJ1
theorem qWO:qBk IU2 IJ2:=nO zNx qLC
def qZy:=uX (exI IU2 IJ2) noL noL 32 [.rcd 30,.rcd 30] [.bool]
def qCJ(a:Cf)(b:Cf):Bool:=(qZy (a,b,())).isSome
def qG8(a:Cf)(b:Cf):Bool×Unit:=(qZy (a,b,())).getD (false,())
def qZz:TB:=eD aC [.rcd 30,.rcd 30] [.bool] (fun a=>qCJ a.1 a.2.1) (fun a=>qG8 a.1 a.2.1)
theorem zK4:aJ 32 qZz:=rXb (fO qWO) (by kernel_rfl) rfl rfl fun _=>rfl
def zK5:=ljT [(3,fun st=>[si 23]++qMF st 21 79),(10,fun st=>[si 61]++qMF st 59 43)]
def zHI:=uO (exI IU2 IJ2) zK5 noL 57 [.rcd 37] [stA]
def qBl(s:Se):Bool:=(zHI (s,())).isSome
def qEM(s:Se):StT×Unit:=(zHI (s,())).getD (stD,())
def zHJ:TB:=fzR (qCG [.rcd 37] [stA] (fun a=>qBl a.1) (fun a=>qEM a.1) rfl)
theorem zNy:aJ 57 zHJ:=rO (fO qWO) (by kernel_rfl) rfl (by simp) fun _=>by kernel_rfl
def IT3:T3:=[(32,qZz,some (jB aC [.rcd 30,.rcd 30] [.bool] (fun a=>qCJ a.1 a.2.1) (fun a=>qG8 a.1 a.2.1))),(57,zHJ,some (jO [.rcd 37] [stA] (fun a=>qBl a.1) (fun a=>qEM a.1)))]
theorem zNz:qDS IT3:=aZ zK4 (tX sD) (aZ zNy (tX (qL1 rfl)) (uH))
def IU3:Con aC.T:=qEJ IT3 IU2
def IJ3:FuncId→Option CJK:=cj3 IT3 IJ2
theorem qWP:qBk IU3 IJ3:=nO zNz qWO
def zHK:=ljT [(3,fun st=>[si 16]++zKr st 2 hS)]
def zHL:=ljT [(18,fun st=>bK st 10 [.rcd 43])]
def qZ0:=uO (exI IU3 IJ3) zHK zHL 19 [.rcd 37,.dat 3] [stA]
def xC(s:Se)(ids:List Int):Bool:=(qZ0 (s,ids,())).isSome
def qBm(s:Se)(ids:List Int):StT×Unit:=(qZ0 (s,ids,())).getD (stD,())
def qZ1:TB:=fzR (qCG [.rcd 37,.dat 3] [stA] (fun a=>xC a.1 a.2.1) (fun a=>qBm a.1 a.2.1) rfl)
theorem zK6:aJ 19 qZ1:=rO (fO qWP) (by kernel_rfl) rfl (by simp) fun _=>by kernel_rfl
def zHM:=uO (exI IU3 IJ3) noL noL 175 [.rcd 37,.rcd 43] [stA]
def qG9(s:Se)(a:Ap):Bool:=(zHM (s,a,())).isSome
def qH9(s:Se)(a:Ap):StT×Unit:=(zHM (s,a,())).getD (stD,())
def zHN:TB:=fzR (qCG [.rcd 37,.rcd 43] [stA] (fun a=>qG9 a.1 a.2.1) (fun a=>qH9 a.1 a.2.1) rfl)
theorem zN0:aJ 175 zHN:=rO (fO qWP) (by kernel_rfl) rfl (by simp) fun _=>by kernel_rfl
def IT4:T3:=[(19,qZ1,some (jO [.rcd 37,.dat 3] [stA] (fun a=>xC a.1 a.2.1) (fun a=>qBm a.1 a.2.1))),(175,zHN,some (jO [.rcd 37,.rcd 43] [stA] (fun a=>qG9 a.1 a.2.1) (fun a=>qH9 a.1 a.2.1)))]
theorem zN1:qDS IT4:=aZ zK6 (tX (qL1 rfl)) (aZ zN0 (tX (qL1 rfl)) (uH))
def IU4:Con aC.T:=qEJ IT4 IU3
def IJ4:FuncId→Option CJK:=cj3 IT4 IJ3
theorem zHO:qBk IU4 IJ4:=nO zN1 qWP
def qZ2:=uO (exI IU4 IJ4) noL noL 217 [.dat 3] [.one (.own 0 3 false)]
def uB(l:List Int):Bool:=(qZ2 (l,())).isSome
def yI(l:List Int):List Int×Unit:=(qZ2 (l,())).getD ([],())
def qZ3:TB:=fzR (qCG [.dat 3] [.one (.own 0 3 false)] (fun a=>uB a.1) (fun a=>yI a.1) rfl)
theorem zK7:aJ 217 qZ3:=rO (fO zHO) (by kernel_rfl) rfl (by simp) fun _=>by kernel_rfl
def IT5:T3:=[(217,qZ3,some (jO [.dat 3] [.one (.own 0 3 false)] (fun a=>uB a.1) (fun a=>yI a.1)))]
theorem zN2:qDS IT5:=aZ zK7 (tX (qL1 rfl)) (uH)
def IU5:Con aC.T:=qEJ IT5 IU4
def IJ5:FuncId→Option CJK:=cj3 IT5 IJ4
theorem qLE:qBk IU5 IJ5:=nO zN2 zHO
def zHP:=uO (exI IU5 IJ5) noL noL 148 [.rcd 43] [apA]
def qGA(a:Ap):Bool:=(zHP (a,())).isSome
def qLF(a:Ap):ApT×Unit:=(zHP (a,())).getD (apD,())
def zHQ:TB:=fzR (qCG [.rcd 43] [apA] (fun a=>qGA a.1) (fun a=>qLF a.1) rfl)
theorem zN3:aJ 148 zHQ:=rO (fO qLE) (by kernel_rfl) rfl (by simp) fun _=>by kernel_rfl
def zC3:=ljT [(3,fun st=>[aS st 5 46 false,si 12]),(6,fun st=>[aS st 5 46 false,si 22])]
def zC4:=ljT [(10,fun st=>[aS st 5 46 false]),(11,fun st=>[aS st 5 46 false])]
def qTL:=uP (exI IU5 IJ5) zC3 zC4 170 1 6 [.ptr 0 (stX 1),.one (.dat 3)] [.one (.dat 46)] [.ptr 0 (stX 6)]
def vP(t:StX)(ids:List Int):Bool:=(qTL (t,ids,())).isSome
def xD(t:StX)(ids:List Int):(List Ct×Unit)×StX×Unit:=(qTL (t,ids,())).getD (([],()),zH1,())
def qTM:TB:=qHa aC 1 6 5 [.ptr 0 (stX 1),.one (.dat 3)] [.one (.dat 46)] [.ptr 0 (stX 6)] (fun a=>vP a.1 a.2.1) (fun a=>xD a.1 a.2.1)
theorem zHR:aJ 170 qTM:=rP (fO qLE) (by kernel_rfl)
def qTN:=ljT [(3,fun st=>[aS st 5 3 false,si 14])]
def qTO:=ljT [(7,fun st=>[aS st 5 3 false])]
def qLG:=uP (exI IU5 IJ5) qTN qTO 171 1 6 [.ptr 0 (stX 1),.one (.int .i64)] [.one (.dat 3)] [.ptr 0 (stX 6)]
def oV(t:StX)(app:Int):Bool:=(qLG (t,app,())).isSome
def oH(t:StX)(app:Int):(List Int×Unit)×StX×Unit:=(qLG (t,app,())).getD (([],()),zH1,())
def qLH:TB:=qHa aC 1 6 5 [.ptr 0 (stX 1),.one (.int .i64)] [.one (.dat 3)] [.ptr 0 (stX 6)] (fun a=>oV a.1 a.2.1) (fun a=>oH a.1 a.2.1)
theorem qWQ:aJ 171 qLH:=rP (fO qLE) (by kernel_rfl)
def zHS:=ljT [(2,fun st=>[si 12]++qZl st 0++zKr st 4 hAg)]
def zHT:=ljT [(8,fun st=>qZl st 0++zKr st 4 hAg)]
def qZ4:=uP (exI IU5 IJ5) zHS zHT 174 1 11 [.ptr 0 (stX 1),.st (apX 6),.one (.dat 3)] [.st (zNn 16)] [.ptr 0 (stX 11)]
def qCK(t:StX)(a:ApT)(ids:List Int):Bool:=(qZ4 (t,a,ids,())).isSome
def qDJ(t:StX)(a:ApT)(ids:List Int):(ApT×Unit)×StX×Unit:=(qZ4 (t,a,ids,())).getD ((apD,()),zH1,())
def qZ5:TB:=qHa aC 1 11 10 [.ptr 0 (stX 1),.st (apX 6),.one (.dat 3)] [.st (zNn 16)] [.ptr 0 (stX 11)] (fun a=>qCK a.1 a.2.1 a.2.2.1) (fun a=>qDJ a.1 a.2.1 a.2.2.1)
theorem zK8:aJ 174 qZ5:=rP (fO qLE) (by kernel_rfl)
def IT6:T3:=[(148,zHQ,some (jO [.rcd 43] [apA] (fun a=>qGA a.1) (fun a=>qLF a.1))),(170,qTM,some (jA aC 1 6 5 [.ptr 0 (stX 1),.one (.dat 3)] [.one (.dat 46)] [.ptr 0 (stX 6)] (fun a=>vP a.1 a.2.1) (fun a=>xD a.1 a.2.1))),(171,qLH,some (jA aC 1 6 5 [.ptr 0 (stX 1),.one (.int .i64)] [.one (.dat 3)] [.ptr 0 (stX 6)] (fun a=>oV a.1 a.2.1) (fun a=>oH a.1 a.2.1))),(174,qZ5,some (jA aC 1 11 10 [.ptr 0 (stX 1),.st (apX 6),.one (.dat 3)] [.st (zNn 16)] [.ptr 0 (stX 11)] (fun a=>qCK a.1 a.2.1 a.2.2.1) (fun a=>qDJ a.1 a.2.1 a.2.2.1)))]
theorem zN4:qDS IT6:=aZ zN3 (tX (qL1 rfl)) (aZ zHR (tX qH6) (aZ qWQ (tX qH6) (aZ zK8 (tX qH6) (uH))))
def IU6:Con aC.T:=qEJ IT6 IU5
def IJ6:FuncId→Option CJK:=cj3 IT6 IJ5
theorem zHU:qBk IU6 IJ6:=nO zN4 qLE
def qWR:=ljT [(13,fun st=>[si 78]++qZl st 0++zKr st 3 hA)]
def qWS:=ljT [(2,fun st=>[.ptr 3 st.hp.nx (apX (Nat.add st.hp.nx 1)),.slot 4 .bool]),(22,fun st=>qZl st 0++bK st 3 zQb++zPn st 3)]
def qOw:=uP (exI IU6 IJ6) qWR qWS 70 1 6 [.ptr 0 (stX 1)] [.one (.rcd 49)] [.ptr 0 (stX 6)]
def sF(t:StX):Bool:=(qOw (t,())).isSome
def sG(t:StX):(Ou×Unit)×StX×Unit:=(qOw (t,())).getD ((dOu,()),zH1,())
def qOx:TB:=qHa aC 1 6 5 [.ptr 0 (stX 1)] [.one (.rcd 49)] [.ptr 0 (stX 6)] (fun a=>sF a.1) (fun a=>sG a.1)
theorem zC5:aJ 70 qOx:=rP (fO zHU) (by kernel_rfl)
def IT7:T3:=[(70,qOx,some (jA aC 1 6 5 [.ptr 0 (stX 1)] [.one (.rcd 49)] [.ptr 0 (stX 6)] (fun a=>sF a.1) (fun a=>sG a.1)))]
theorem zN5:qDS IT7:=aZ zC5 (tX qH6) (uH)
def IU7:Con aC.T:=qEJ IT7 IU6
def IJ7:FuncId→Option CJK:=cj3 IT7 IJ6
theorem zHV:qBk IU7 IJ7:=nO zN5 zHU
def zLA:=uP (exI IU7 IJ7) noL noL 20 1 6 [.ptr 0 (stX 1)] [.one (.rcd 49)] [.ptr 0 (stX 6)]
def qCL(t:StX):Bool:=(zLA (t,())).isSome
def qIr(t:StX):(Ou×Unit)×StX×Unit:=(zLA (t,())).getD ((dOu,()),zH1,())
def zLB:TB:=qHa aC 1 6 5 [.ptr 0 (stX 1)] [.one (.rcd 49)] [.ptr 0 (stX 6)] (fun a=>qCL a.1) (fun a=>qIr a.1)
theorem zPs:aJ 20 zLB:=rP (fO zHV) (by kernel_rfl)
def IT8:T3:=[(20,zLB,some (jA aC 1 6 5 [.ptr 0 (stX 1)] [.one (.rcd 49)] [.ptr 0 (stX 6)] (fun a=>qCL a.1) (fun a=>qIr a.1)))]
theorem zN6:qDS IT8:=aZ zPs (tX qH6) (uH)
def IU8:Con aC.T:=qEJ IT8 IU7
def IJ8:FuncId→Option CJK:=cj3 IT8 IJ7
theorem zHW:qBk IU8 IJ8:=nO zN6 zHV
def qZ6:=uX (exI IU8 IJ8) noL noL 8 [.rcd 37,.rcd 57] [.rcd 37,.rcd 49]
def uC(s:Se)(x:Ip):Bool:=(qZ6 (s,x,())).isSome
def sN(s:Se)(x:Ip):Se×Ou×Unit:=(qZ6 (s,x,())).getD (dSe,dOu,())
def qPZ:TB:=fzR (con [.rcd 37,.rcd 57] [.rcd 37,.rcd 49] (fun a=>uC a.1 a.2.1) (fun a=>sN a.1 a.2.1) rfl)
theorem qZ7:aJ 8 qPZ:=rX (fO zHW) (by kernel_rfl) rfl rfl
def qZ8:=uX (exI IU8 IJ8) noL noL 13 [.rcd 37,.rcd 37] [.bool]
def qA1(s:Se)(t:Se):Bool:=(qZ8 (s,t,())).isSome
def qDK(s:Se)(t:Se):Bool×Unit:=(qZ8 (s,t,())).getD (false,())
def qZ9:TB:=eD aC [.rcd 37,.rcd 37] [.bool] (fun a=>qA1 a.1 a.2.1) (fun a=>qDK a.1 a.2.1)
theorem zK9:aJ 13 qZ9:=rXb (fO zHW) (by kernel_rfl) rfl rfl fun _=>rfl
end Go.Proofs.YtlmkakccmpncjaaGreatDoor
