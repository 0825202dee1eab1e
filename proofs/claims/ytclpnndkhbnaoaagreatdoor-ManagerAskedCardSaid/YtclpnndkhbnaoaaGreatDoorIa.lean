/- Part of the proof: texts Ia Id Hj. No conditions. -/
import Derived.Test.YtclpnndkhbnaoaaGreatDoorVi
import Derived.Test.YtclpnndkhbnaoaaGreatDoorEa
set_option linter.all false
noncomputable section
namespace Go.Proofs.YtclpnndkhbnaoaaGreatDoor
open Go Go.W Go.Proofs
set_option maxRecDepth 100000
abbrev Ko:=aJ aC
def qAm(ex:Nat→ExR aC.T)(L J:Nat→St aC.T→Option (List Ld))(f:Nat)(ka kr:List Kd)(a:Ka ka):DT (Ka kr):=match Tryz.prog.funcs[f]? with
 | some fn=>qAx aC Tryz.prog ex 1000 L J fn (uI aC ka a) ⟨.e,0,[]⟩ (qIF aC kr)
 | none=>.bad
def mW(ex:Nat→ExR aC.T)(L J:Nat→St aC.T→Option (List Ld))(f:Nat)(ka:List Kd)(kr:List Ans)(a:Ka ka):DT (Ko kr):=match Tryz.prog.funcs[f]? with
 | some fn=>qAy aC Tryz.prog ex 1000 L J fn (uI aC ka a) ⟨.e,0,[]⟩ (qOV aC kr)
 | none=>.bad
def mJ(ka:List Kd)(kr:List Ans)(pre:Ka ka→Bool)(M:Ka ka→Ko kr)(hk:ka.all bK=true):TB:=(vN aC ka kr pre M).con (iE ka kr pre M hk)
abbrev oJ(ex:Nat→ExR aC.T):Prop:=∀nt,nt≤1000000→rU Tryz.prog nt (ex nt)
theorem qLj{f:Nat}(ht:(match Tryz.prog.funcs[f]? with | some fn=>!fn.body.isNone | none=>false)=true):∃fn,Tryz.prog.funcs[f]? = some fn:=by
 split at ht
 ·rename_i fn h;exact⟨fn,h⟩
 ·cases ht
theorem zF{ex:Nat→ExR aC.T}(hex:oJ ex){L J:Nat→St aC.T→Option (List Ld)}{f:Nat}(ht:(match Tryz.prog.funcs[f]? with | some fn=>!fn.body.isNone | none=>false)=true){ka kr:List Kd}(hkr:kr.all bK=true){pre:Ka ka→Bool}{M:Ka ka→Ka kr}
  (h:∀a,pre a=true→(qAm ex L J f ka kr a).G (M a)):pX Tryz.prog f (uR aC ka kr pre M):=by
 obtain⟨fn,hfn⟩:=qLj ht
 refine qGb (fuel:=1000) (L:=L) (J:=J) hex hfn (there f ht) hkr fun a ha=>?_
 have:= h a ha
 unfold qAm at this
 rw[hfn] at this
 exact this
theorem lY{ex:Nat→ExR aC.T}(hex:oJ ex){L J:Nat→St aC.T→Option (List Ld)}{f:Nat}(ht:(match Tryz.prog.funcs[f]? with | some fn=>!fn.body.isNone | none=>false)=true){ka:List Kd}{kr:List Ans}(hne:kr≠[])(hly:∀x,qCe aC kr x=true){pre:Ka ka→Bool}{M:Ka ka→Ko kr}
  (h:∀a,pre a=true→(mW ex L J f ka kr a).G (M a)):pX Tryz.prog f (vN aC ka kr pre M):=by
 obtain⟨fn,hfn⟩:=qLj ht
 refine qGc (fuel:=1000) (L:=L) (J:=J) hex hfn (there f ht) hne hly fun a ha=>?_
 have:= h a ha
 unfold mW at this
 rw[hfn] at this
 exact this
theorem zG{α β:Type}{t:α→DT β}{u:α→Option β}(hu:u=hide fun a=>(t a).val)(d:β)(a:α)(ha:(u a).isSome=true):(t a).G ((u a).getD d):=by
 rw[hu,qHf] at ha ⊢
 exact DT.qKf ha
theorem qRq{ex:Nat→ExR aC.T}(hex:oJ ex){L J:Nat→St aC.T→Option (List Ld)}{f:Nat}(ht:(match Tryz.prog.funcs[f]? with | some fn=>!fn.body.isNone | none=>false)=true){ka kr:List Kd}(hk:ka.all bK=true)(hkr:kr.all bK=true)(d:Ka kr){u:Ka ka→Option (Ka kr)}
  (hu:u=hide fun a=>(qAm ex L J f ka kr a).val):aN f (fzR (con ka kr (fun a=>(u a).isSome) (fun a=>(u a).getD d) hk)) :=
 iF (Spec.gN (zF hex ht hkr (fun a ha=>zG hu d a ha)) (xC ka kr _ _ hk) fun _=>di _)
theorem qPz{ex:Nat→ExR aC.T}(hex:oJ ex){L J:Nat→St aC.T→Option (List Ld)}{f:Nat}(ht:(match Tryz.prog.funcs[f]? with | some fn=>!fn.body.isNone | none=>false)=true){ka kr:List Kd}(hk:ka.all bK=true)(hkr:kr.all bK=true)(d:Ka kr){u:Ka ka→Option (Ka kr)}
  (hu:u=hide fun a=>(qAm ex L J f ka kr a).val) (hfl:∀a:Ka ka,qAg (encR aC kr ((u a).getD d))=true):aN f (lT aC ka kr (fun a=>(u a).isSome) (fun a=>(u a).getD d)) :=
 qM9 (zF hex ht hkr (fun a ha=>zG hu d a ha)) hk hfl
theorem qRr{ex:Nat→ExR aC.T}(hex:oJ ex){L J:Nat→St aC.T→Option (List Ld)}{f:Nat}(ht:(match Tryz.prog.funcs[f]? with | some fn=>!fn.body.isNone | none=>false)=true){ka:List Kd}{kr:List Ans}(hk:ka.all bK=true)(hne:kr≠[])(hly:∀x,qCe aC kr x=true)(d:Ko kr){u:Ka ka→Option (Ko kr)}
  (hu:u=hide fun a=>(mW ex L J f ka kr a).val):aN f (fzR (mJ ka kr (fun a=>(u a).isSome) (fun a=>(u a).getD d) hk)) :=
 iF (Spec.gN (lY hex ht hne hly (fun a ha=>zG hu d a ha)) (iE ka kr _ _ hk) fun _=>di _)
def uX(ex:Nat→ExR aC.T)(L J:Nat→St aC.T→Option (List Ld))(f:Nat)(ka kr:List Kd):Ka ka→Option (Ka kr):=hide fun a=>(qAm ex L J f ka kr a).val
theorem rX{ex:Nat→ExR aC.T}(hex:oJ ex){L J:Nat→St aC.T→Option (List Ld)}{f:Nat}(ht:(match Tryz.prog.funcs[f]? with | some fn=>!fn.body.isNone | none=>false)=true){ka kr:List Kd}(hk:ka.all bK=true)(hkr:kr.all bK=true){d:Ka kr}:aN f (fzR (con ka kr (fun a=>(uX ex L J f ka kr a).isSome) (fun a=>(uX ex L J f ka kr a).getD d) hk)):=qRq hex ht hk hkr d rfl
theorem rXb{ex:Nat→ExR aC.T}(hex:oJ ex){L J:Nat→St aC.T→Option (List Ld)}{f:Nat}(ht:(match Tryz.prog.funcs[f]? with | some fn=>!fn.body.isNone | none=>false)=true){ka kr:List Kd}(hk:ka.all bK=true)(hkr:kr.all bK=true){d:Ka kr}(hfl:∀a:Ka ka,qAg (encR aC kr ((uX ex L J f ka kr a).getD d))=true):aN f (lT aC ka kr (fun a=>(uX ex L J f ka kr a).isSome) (fun a=>(uX ex L J f ka kr a).getD d)):=qPz hex ht hk hkr d rfl hfl
def uO(ex:Nat→ExR aC.T)(L J:Nat→St aC.T→Option (List Ld))(f:Nat)(ka:List Kd)(kr:List Ans):Ka ka→Option (Ko kr):=hide fun a=>(mW ex L J f ka kr a).val
theorem rO{ex:Nat→ExR aC.T}(hex:oJ ex){L J:Nat→St aC.T→Option (List Ld)}{f:Nat}(ht:(match Tryz.prog.funcs[f]? with | some fn=>!fn.body.isNone | none=>false)=true){ka:List Kd}{kr:List Ans}(hk:ka.all bK=true)(hne:kr≠[])(hly:∀x,qCe aC kr x=true){d:Ko kr}:aN f (fzR (mJ ka kr (fun a=>(uO ex L J f ka kr a).isSome) (fun a=>(uO ex L J f ka kr a).getD d) hk)):=qRr hex ht hk hne hly d rfl
abbrev CJK:=CJ aC.T
def qCh(c:TB)(j:CJK):Prop:=(∀args h,DT.dL (j args h))∧∀args h (α:Type) (k:VK×Hp aC.T→DT α) (x:α),(j args h α k).G x→(c args h).K fun r=>(k r).G x
theorem kF{ka kr:List Kd}{pre:Ka ka→Bool}{M:Ka ka→Ka kr}:qCh (lT aC ka kr pre M) (jB aC ka kr pre M):=⟨qOX,fun _ _ _ _ _ h=>qSz h⟩
def jX(ka kr:List Kd)(pre:Ka ka→Bool)(M:Ka ka→Ka kr):CJK:=jS aC ka (fun r=>(encR aC kr r,[])) pre M
def jO(ka:List Kd)(kr:List Ans)(pre:Ka ka→Bool)(M:Ka ka→Ko kr):CJK:=jS aC ka (fun r=>(qBy aC kr r,(fP aC kr r).map some)) pre M
theorem qGo{ka kr:List Kd}{pre:Ka ka→Bool}{M:Ka ka→Ka kr}(hk:ka.all bK=true):qCh (fzR (con ka kr pre M hk)) (jX ka kr pre M):=⟨qKo,fun _ _ _ _ _ h=>qS0 hk h⟩
theorem qBA{ka:List Kd}{kr:List Ans}{pre:Ka ka→Bool}{M:Ka ka→Ko kr}(hk:ka.all bK=true):qCh (fzR (mJ ka kr pre M hk)) (jO ka kr pre M):=⟨qKo,fun _ _ _ _ _ h=>qS1 hk h⟩
def qEV{α:Type 1}:List (Nat×α)→Nat→Option α
 | [],_=>none
 | (i,x)::l,j=>(match Nat.beq i j with | true=>some x | false=>qEV l j)
abbrev T3:=List (Nat×TB×Option CJK)
def oK(l:T3):Prop:=∀f c jo,qEV l f=some (c,jo)→aN f c∧∀j,jo=some j→qCh c j
theorem gQ:oK []:=fun f c jo h=>by cases h
theorem aD{f:Nat}{c:TB}{jo:Option CJK}{l:T3}(h:aN f c)(hj:∀j,jo=some j→qCh c j)(hl:oK l):oK ((f,c,jo)::l):=by
 intro g c' jo' hg
 simp only[qEV] at hg
 split at hg
 ·rename_i hb
  cases hg
  rw[←cz hb]
  exact⟨h,hj⟩
 ·exact hl g c' jo' hg
theorem aY{c:TB}:∀j,(none:Option CJK)=some j→qCh c j:=fun _ h=>by cases h
theorem jW{c:TB}{j:CJK}(h:qCh c j):∀j',some j=some j'→qCh c j':=fun _ e=>by cases e;exact h
def qE(l:T3)(K:Con aC.T):Con aC.T:=fun f=>match qEV l f with | some (c,_)=>some c | none=>K f
def cj3(l:T3)(K:FuncId→Option CJK):FuncId→Option CJK:=fun f=>match qEV l f with | some (_,jo)=>jo | none=>K f
def jL(C:Con aC.T)(cj:FuncId→Option CJK):Prop:=qNZ Tryz.prog C∧∀f j,cj f=some j→∃c,C f=some c∧qCh c j
theorem lZ:jL (fun _=>none) (fun _=>none):=⟨(fun f S h=>by cases h),(fun f j h=>by cases h)⟩
theorem eO{l:T3}{K:Con aC.T}{cj:FuncId→Option CJK}(hl:oK l)(hK:jL K cj):jL (qE l K) (cj3 l cj):=by
 refine⟨fun f S hS=>?_,fun f j hj=>?_⟩
 ·unfold qE at hS
  split at hS
  ·rename_i c jo hc;cases hS;exact(hl f _ jo hc).1
  ·exact hK.1 f S hS
 ·unfold cj3 at hj
  unfold qE
  split at hj
  ·rename_i c jo hc;exact⟨c,rfl,(hl f c jo hc).2 j hj⟩
  ·exact hK.2 f j hj
theorem qF{C:Con aC.T}{cj:FuncId→Option CJK}(h:jL C cj){fuel n:Nat}:qFZ (hdT aC Tryz.prog C (fun _=>false) fuel (n+1)) cj:=by
 intro f c hc
 obtain⟨S,h1,h2,h3⟩:=h.2 f c hc
 refine⟨h2,fun args h α k x hx=>?_⟩
 simp only[hdT,h1]
 exact h3 args h α k x hx
def qLk(ex:Nat→ExR aC.T)(L J:Nat→St aC.T→Option (List Ld))(f p n:Nat)(ka kr ku:List Ans)(a:Ko ka):DT (Ko kr×Ko ku):=match Tryz.prog.funcs[f]? with
 | some fn=>qAz aC Tryz.prog p ex 1000 L J fn (aJ.enc aC ka a) (hpA aC n ka a) (qME aC kr ku)
 | none=>.bad
theorem qRs{ex:Nat→ExR aC.T}(hex:oJ ex){L J:Nat→St aC.T→Option (List Ld)}{f p n c:Nat}(ht:(match Tryz.prog.funcs[f]? with | some fn=>!fn.body.isNone | none=>false)=true){ka kr ku:List Ans}(d:Ko kr×Ko ku){u:Ko ka→Option (Ko kr×Ko ku)}
  (hu:u=hide fun a=>(qLk ex L J f p n ka kr ku a).val):aN f (xI aC p n c ka kr ku (fun a=>(u a).isSome) (fun a=>(u a).getD d)):=by
 obtain⟨fn,hfn⟩:=qLj ht
 refine qMF (qKs (fuel:=1000) (L:=L) (J:=J) hex hfn (there f ht) fun a ha=>?_)
 have:= zG hu d a ha
 unfold qLk at this
 rw[hfn] at this
 exact this
def uP(ex:Nat→ExR aC.T)(L J:Nat→St aC.T→Option (List Ld))(f p n:Nat)(ka kr ku:List Ans):Ko ka→Option (Ko kr×Ko ku):=hide fun a=>(qLk ex L J f p n ka kr ku a).val
theorem rP{ex:Nat→ExR aC.T}(hex:oJ ex){L J:Nat→St aC.T→Option (List Ld)}{f p n c:Nat}(ht:(match Tryz.prog.funcs[f]? with | some fn=>!fn.body.isNone | none=>false)=true){ka kr ku:List Ans}{d:Ko kr×Ko ku}:aN f (xI aC p n c ka kr ku (fun a=>(uP ex L J f p n ka kr ku a).isSome) (fun a=>(uP ex L J f p n ka kr ku a).getD d)):=qRs hex ht d rfl
theorem zH{p n c:Nat}{ka kr ku:List Ans}{pre:Ko ka→Bool}{M:Ko ka→Ko kr×Ko ku}:qCh (xI aC p n c ka kr ku pre M) (jA aC p n c ka kr ku pre M):=⟨qOZ,fun _ _ _ _ _ h=>qS2 h⟩
def nl{α:Type}(x:List α):Bool:=(0+x.length).ble x.length&&true&&true
def wh{α:Type}(x:List α):List α:=eH 0 (0+x.length) x
def okX{α β τ:Type}(t:α×β×List Nd×List Ap×List Ct×List Sl×List Pn×τ):Bool:=t.2.2.1.length.beq t.2.2.1.length&&(t.2.2.2.1.length.beq t.2.2.2.1.length&&(t.2.2.2.2.1.length.beq t.2.2.2.2.1.length&&(t.2.2.2.2.2.1.length.beq t.2.2.2.2.2.1.length&&t.2.2.2.2.2.2.1.length.beq t.2.2.2.2.2.2.1.length)))
def seX{τ:Type}(t:List B×List Qu×List Nd×List Ap×List Ct×List Sl×List Pn×Int×Int×Int×τ):Se:=Se.mk (Cf.mk t.1 t.2.1) (wh t.2.2.1) (wh t.2.2.2.1) (wh t.2.2.2.2.1) (wh t.2.2.2.2.2.1) (wh t.2.2.2.2.2.2.1) t.2.2.2.2.2.2.2.1 t.2.2.2.2.2.2.2.2.1 t.2.2.2.2.2.2.2.2.2.1
def qOw{τ:Type}(s:Int×Int×B×Int×Int×Int×Int×List Ak×Int×Int×List Int×List Int×List Int×List Int×τ):Bool:=s.2.2.2.2.2.2.2.1.length.beq s.2.2.2.2.2.2.2.1.length&&(s.2.2.2.2.2.2.2.2.2.2.1.length.beq s.2.2.2.2.2.2.2.2.2.2.1.length&&(s.2.2.2.2.2.2.2.2.2.2.2.1.length.beq s.2.2.2.2.2.2.2.2.2.2.2.1.length&&(s.2.2.2.2.2.2.2.2.2.2.2.2.1.length.beq s.2.2.2.2.2.2.2.2.2.2.2.2.1.length&&s.2.2.2.2.2.2.2.2.2.2.2.2.2.1.length.beq s.2.2.2.2.2.2.2.2.2.2.2.2.2.1.length)))
@[simp] theorem oL{α:Type}(x:List α):nl x=true:=by simp[nl]
@[simp] theorem oM{α:Type}(x:List α):wh x=x:=by simp[wh,eH]
@[simp] theorem qG{α β τ:Type}(t:α×β×List Nd×List Ap×List Ct×List Sl×List Pn×τ):okX t=true:=by simp[okX]
@[simp] theorem qSC{τ:Type}(s:Int×Int×B×Int×Int×Int×Int×List Ak×Int×Int×List Int×List Int×List Int×List Int×τ):qOw s=true:=by simp[qOw]
def kV(v:VK)(e:Nat):Kd:=match v with
 | .d (.int k _)=>.int k
 | .d (.bool _)=>.bool
 | .d (.str _)=>.str
 | .d (.sl e' _)=>.dat e'
 | .sl i _ _ _=>.own i (Nat.mod e 1000000) (Nat.ble 1000000 e)
 | _=>.dat (Nat.mod e 1000000)
def qMT:List VK→List Nat→List Kd
 | [],_=>[]
 | v::vs,[]=>kV v 0::qMT vs []
 | v::vs,e::es=>kV v e::qMT vs es
def qLl(st:St aC.T)(t:Nat)(es:List Nat):List Ld:=match st.env.get t with
 | some (.ptr i _ _)=>(match st.hp.get i with
  | some (.rows _ [cs])=>[.obj i (qMT cs es)]
  | _=>[])
 | _=>[]
def qLm(st:St aC.T)(t:Nat):List Ld:=match st.env.get t with
 | some (.ptr i _ _)=>(match st.hp.get i with
  | some (.rows _ [cs])=>cs.foldr (fun v l=>match v with | .sl j _ _ _=>.gone j::l | _=>l) []
  | _=>[])
 | _=>[]
def hS:List Nat:=[9,67,41,44,80,83,46]
def hA:List Nat:=[0,0,0,0,0,0,0,51,0,0,3,3,3,3]
def hAg:List Nat:=[0,0,0,0,0,0,0,51,0,0,1000000+3,3,3,3]
def qLn(l:List Nat):List VK→Bool
 | []=>false
 | .fn f _ _::vs=>(match fI l f with | true=>true | false=>qLn l vs)
 | _::vs=>qLn l vs
def qBB(tab:List (Nat×Option (List Kd)))(wr:List Nat)(f:FuncId)(args:List VK):Option (Option (List Kd)):=match aQ tab f with
 | some (some kr)=>(match qLn wr args with | true=>some none | false=>some (some kr))
 | x=>x
def exN(hd:Hd aC.T)(cj:FuncId→Option CJK)(inl:FuncId→List VK→Option (Option (List Kd)))(L J:FuncId→Nat→St aC.T→Option (List Ld))(n:Nat):Nat→ExR aC.T:=fun nt=>exC aC Tryz.prog (hcN aC Tryz.prog hd cj inl 1000 L J n) nt
theorem vQ{hd:Hd aC.T}(hHd:bT Tryz.prog hd){cj:FuncId→Option CJK}(hcj:qFZ hd cj){inl:FuncId→List VK→Option (Option (List Kd))}{L J:FuncId→Nat→St aC.T→Option (List Ld)}{n:Nat}:oJ (exN hd cj inl L J n):=fun _ hnt=>rV mixed (qIL mixed hno hHd hcj n) hnt fun _ _ _ _ _ _ h=>qKi (qD4 hcj n) h
def sD:Nat→ExR aC.T:=fun nt=>exB aC Tryz.prog nt (exD aC Tryz.prog hd0 nt)
theorem gX:oJ sD:=fun _ hnt=>qOY hnt (rV mixed qKN hnt fun _ _ _ _ _ _ h=>qE0 (DT.dH h))
def xO:TB:=fun _ _=>.bad
theorem zI{f:FuncId}:aN f xO:=fun _ _ _ h=>h.elim
open Go.W.DT (ret need br both)
def gH{α:Type}(b:Nat)(xs:List α):DT (List α×Unit) :=
 let +zeta c:=[]++xs;let +zeta a:=0+xs.length;br (xs.length.beq 0) (both (ret ([],())) (need (dB a b&&true) (need (a.beq c.length) (ret (c,()))))) (need (dB a b&&true) (need (a.beq c.length) (ret (c,()))))

def qBC{α:Type}(b:Nat)(xs:List α):DT (List α×Unit) :=
 let +zeta a:=0+xs.length;let +zeta d:=eH 0 (0+a) ([]++xs);let +zeta c:=(0+a).ble ([]++xs).length;br (xs.length.beq 0) (both (ret ([],())) (need (dB a b&&true) (need c (ret (d,()))))) (need (dB a b&&true) (need c (ret (d,()))))

theorem iQ{α:Type}{b:Nat}{xs:List α}(h:dB xs.length b=true):(gH b xs).G (xs,()):=by
 unfold gH
 simp only[fe,oz,h,gp,jq]
 cases hx:xs.length.beq 0 with
 | true =>
  have: xs=[]:=jf (cz hx)
  subst this
  exact⟨rfl,rfl⟩
 | false=>rfl
theorem qLo{α:Type}{b:Nat}{xs:List α}(h:dB xs.length b=true):(qBC b xs).G (xs,()):=by
 unfold qBC
 have e:eH 0 xs.length xs=xs:=by simp[eH]
 simp only[fe,oz,h,gp,fw (dh _),e]
 cases hx:xs.length.beq 0 with
 | true =>
  have: xs=[]:=jf (cz hx)
  subst this
  exact⟨rfl,rfl⟩
 | false=>rfl
theorem qJa(xs:List Nd)(r:List Nd×Unit):(mW sD noL noL 86 [.dat 41] [.one (.own 0 41 false)] (xs,())).G r=(gH 64 xs).G r:=by kernel_rfl
def oN:TB:=fzR (mJ [.dat 41] [.one (.own 0 41 false)] (fun a=>dB (List.length a.1) 64) (fun a=>(a.1,())) rfl)
theorem tN:aN 86 oN:=iF (Spec.gN (lY gX (L:=noL) (J:=noL) (ka:=[.dat 41]) (kr:=[.one (.own 0 41 false)]) (by kernel_rfl) (by simp) (fun _=>rfl) fun a ha=>Eq.mpr (qJa a.1 _) (iQ ha)) (iE _ _ _ _ rfl) fun _=>di _)
theorem qJb(xs:List Ct)(r:List Ct×Unit):(mW sD noL noL 87 [.dat 80] [.one (.own 0 80 false)] (xs,())).G r=(gH 72 xs).G r:=by kernel_rfl
def oO:TB:=fzR (mJ [.dat 80] [.one (.own 0 80 false)] (fun a=>dB (List.length a.1) 72) (fun a=>(a.1,())) rfl)
theorem tO:aN 87 oO:=iF (Spec.gN (lY gX (L:=noL) (J:=noL) (ka:=[.dat 80]) (kr:=[.one (.own 0 80 false)]) (by kernel_rfl) (by simp) (fun _=>rfl) fun a ha=>Eq.mpr (qJb a.1 _) (iQ ha)) (iE _ _ _ _ rfl) fun _=>di _)
theorem qJc(xs:List Sl)(r:List Sl×Unit):(mW sD noL noL 88 [.dat 83] [.one (.own 0 83 false)] (xs,())).G r=(gH 24 xs).G r:=by kernel_rfl
def oP:TB:=fzR (mJ [.dat 83] [.one (.own 0 83 false)] (fun a=>dB (List.length a.1) 24) (fun a=>(a.1,())) rfl)
theorem tQ:aN 88 oP:=iF (Spec.gN (lY gX (L:=noL) (J:=noL) (ka:=[.dat 83]) (kr:=[.one (.own 0 83 false)]) (by kernel_rfl) (by simp) (fun _=>rfl) fun a ha=>Eq.mpr (qJc a.1 _) (iQ ha)) (iE _ _ _ _ rfl) fun _=>di _)
theorem qJd(xs:List Pn)(r:List Pn×Unit):(mW sD noL noL 89 [.dat 46] [.one (.own 0 46 false)] (xs,())).G r=(gH 48 xs).G r:=by kernel_rfl
def oQ:TB:=fzR (mJ [.dat 46] [.one (.own 0 46 false)] (fun a=>dB (List.length a.1) 48) (fun a=>(a.1,())) rfl)
theorem tT:aN 89 oQ:=iF (Spec.gN (lY gX (L:=noL) (J:=noL) (ka:=[.dat 46]) (kr:=[.one (.own 0 46 false)]) (by kernel_rfl) (by simp) (fun _=>rfl) fun a ha=>Eq.mpr (qJd a.1 _) (iQ ha)) (iE _ _ _ _ rfl) fun _=>di _)
theorem qJe(xs:List Ap)(r:List Ap×Unit):(mW sD noL noL 90 [.dat 44] [.one (.own 0 44 false)] (xs,())).G r=(gH 200 xs).G r:=by kernel_rfl
def oU:TB:=fzR (mJ [.dat 44] [.one (.own 0 44 false)] (fun a=>dB (List.length a.1) 200) (fun a=>(a.1,())) rfl)
theorem tV:aN 90 oU:=iF (Spec.gN (lY gX (L:=noL) (J:=noL) (ka:=[.dat 44]) (kr:=[.one (.own 0 44 false)]) (by kernel_rfl) (by simp) (fun _=>rfl) fun a ha=>Eq.mpr (qJe a.1 _) (iQ ha)) (iE _ _ _ _ rfl) fun _=>di _)
theorem qJf(xs:List Qu)(r:List Qu×Unit):(mW sD noL noL 84 [.dat 67] [.one (.own 0 67 false)] (xs,())).G r=(gH 48 xs).G r:=by kernel_rfl
def oV:TB:=fzR (mJ [.dat 67] [.one (.own 0 67 false)] (fun a=>dB (List.length a.1) 48) (fun a=>(a.1,())) rfl)
theorem tX:aN 84 oV:=iF (Spec.gN (lY gX (L:=noL) (J:=noL) (ka:=[.dat 67]) (kr:=[.one (.own 0 67 false)]) (by kernel_rfl) (by simp) (fun _=>rfl) fun a ha=>Eq.mpr (qJf a.1 _) (iQ ha)) (iE _ _ _ _ rfl) fun _=>di _)
theorem qJg(xs:List Ak)(r:List Ak×Unit):(mW sD noL noL 142 [.dat 51] [.one (.own 0 51 false)] (xs,())).G r=(gH 64 xs).G r:=by kernel_rfl
def kZ:TB:=fzR (mJ [.dat 51] [.one (.own 0 51 false)] (fun a=>dB (List.length a.1) 64) (fun a=>(a.1,())) rfl)
theorem oW:aN 142 kZ:=iF (Spec.gN (lY gX (L:=noL) (J:=noL) (ka:=[.dat 51]) (kr:=[.one (.own 0 51 false)]) (by kernel_rfl) (by simp) (fun _=>rfl) fun a ha=>Eq.mpr (qJg a.1 _) (iQ ha)) (iE _ _ _ _ rfl) fun _=>di _)
theorem qJh(xs:List Cp)(r:List Cp×Unit):(qAm sD noL noL 85 [.dat 64] [.dat 64] (xs,())).G r=(qBC 16 xs).G r:=by kernel_rfl
def oZ:TB:=fzR (con [.dat 64] [.dat 64] (fun a=>dB (List.length a.1) 16) (fun a=>(a.1,())) rfl)
theorem tY:aN 85 oZ:=iF (Spec.gN (zF gX (L:=noL) (J:=noL) (ka:=[.dat 64]) (kr:=[.dat 64]) (by kernel_rfl) rfl fun a ha=>Eq.mpr (qJh a.1 _) (qLo ha)) (xC _ _ _ _ rfl) fun _=>di _)
theorem qGp(xs:List B)(r:List B×Unit):(mW sD noL noL 83 [.dat 9] [.one (.own 0 9 false)] (xs,())).G r=(gH 16 xs).G r:=by kernel_rfl
def mD:TB:=fzR (mJ [.dat 9] [.one (.own 0 9 false)] (fun a=>dB (List.length a.1) 16) (fun a=>(a.1,())) rfl)
theorem qH:aN 83 mD:=iF (Spec.gN (lY gX (L:=noL) (J:=noL) (ka:=[.dat 9]) (kr:=[.one (.own 0 9 false)]) (by kernel_rfl) (by simp) (fun _=>rfl) fun a ha=>Eq.mpr (qGp a.1 _) (iQ ha)) (iE _ _ _ _ rfl) fun _=>di _)
theorem qGq(xs:List Int)(r:List Int×Unit):(mW sD noL noL 104 [.dat 3] [.one (.own 0 3 false)] (xs,())).G r=(gH 8 xs).G r:=by kernel_rfl
def mE:TB:=fzR (mJ [.dat 3] [.one (.own 0 3 false)] (fun a=>dB (List.length a.1) 8) (fun a=>(a.1,())) rfl)
theorem qI:aN 104 mE:=iF (Spec.gN (lY gX (L:=noL) (J:=noL) (ka:=[.dat 3]) (kr:=[.one (.own 0 3 false)]) (by kernel_rfl) (by simp) (fun _=>rfl) fun a ha=>Eq.mpr (qGq a.1 _) (iQ ha)) (iE _ _ _ _ rfl) fun _=>di _)
end Go.Proofs.YtclpnndkhbnaoaaGreatDoor
namespace Go.Proofs.YtclpnndkhbnaoaaGreatDoor
open Go Go.W Go.Proofs
open Go.W.DT (ret need br both bad loop join)
set_option maxRecDepth 100000
theorem kG{a b:Nat}(h:a≤b):Nat.ble a b=true:=fw h
theorem qDB{α:Type}{l:List α}{n:Nat}{xs:List α}(h:n+xs.length≤l.length):(aG l n xs).length=l.length:=by
 simp[aG];omega
end Go.Proofs.YtclpnndkhbnaoaaGreatDoor
namespace Go.Proofs.YtclpnndkhbnaoaaGreatDoor
open Go Go.W Go.Proofs
set_option maxRecDepth 100000
abbrev stA:Ans:=.st [.dat 9,.dat 67,.own 0 41 false,.own 1 44 false,.own 2 80 false,.own 3 83 false,.own 4 46 false,.int .i64,.int .i64,.int .i64]
abbrev StT:=List B×List Qu×List Nd×List Ap×List Ct×List Sl×List Pn×Int×Int×Int×Unit
abbrev stD:StT:=([],[],[],[],[],[],[],0,0,0,())
abbrev apA:Ans:=.st [.int .i64,.int .i64,.str,.int .i64,.int .i64,.int .i64,.int .i64,.own 0 51 false,.int .i64,.int .i64,.own 1 3 false,.own 2 3 false,.own 3 3 false,.own 4 3 false]
abbrev ApT:=Int×Int×B×Int×Int×Int×Int×List Ak×Int×Int×List Int×List Int×List Int×List Int×Unit
abbrev apD:ApT:=(0,0,[],0,0,0,0,[],0,0,[],[],[],[],())
abbrev stX(b:Nat):List Kd:=[.dat 9,.dat 67,.own b 41 false,.own (b+1) 44 false,.own (b+2) 80 false,.own (b+3) 83 false,.own (b+4) 46 false,.int .i64,.int .i64,.int .i64,.rcd 48]
abbrev StX:=List B×List Qu×List Nd×List Ap×List Ct×List Sl×List Pn×Int×Int×Int×Ip×Unit
abbrev qLp:StX:=([],[],[],[],[],[],[],0,0,0,dIp,())
abbrev apX(b:Nat):List Kd:=[.int .i64,.int .i64,.str,.int .i64,.int .i64,.int .i64,.int .i64,.own b 51 false,.int .i64,.int .i64,.own (b+1) 3 false,.own (b+2) 3 false,.own (b+3) 3 false,.own (b+4) 3 false]
abbrev qP0(b:Nat):List Kd:=[.int .i64,.int .i64,.str,.int .i64,.int .i64,.int .i64,.int .i64,.own b 51 false,.int .i64,.int .i64,.own (b+1) 3 true,.own (b+2) 3 false,.own (b+3) 3 false,.own (b+4) 3 false]
abbrev qMU:List Kd:=[.int .i64,.int .i64,.str,.int .i64,.int .i64,.int .i64,.int .i64,.dat 51,.int .i64,.int .i64,.dat 3,.dat 3,.dat 3,.dat 3]
def qHw(st:St aC.T)(t:Nat):List Ld:=match st.env.get t with
 | some (.ptr i _ _)=>(match st.hp.get i with
  | some (.rows _ [cs])=>[.obj i (qMT (cs.take 10) hS++[.rcd 48])]
  | _=>[])
 | _=>[]
def hX:List Nat:=hS++[0,0,0,0,0,0,0,0,0,0,0,0,0,0,0,0,0,0,0,0,0,0,0,51,0,0,3,3,3,3,51,3]
def qSD:=ljT [(2,fun st=>[si 8])]
def qSE:=ljT [(2,fun st=>[si 8])]
def qSF:=ljT [(2,fun st=>[si 8])]
def qSG:=ljT [(5,fun st=>[si 5,si 6]++qC9 st 0 3)]
def qSH:=ljT [(6,fun st=>[si 6])]
def qSI:=ljT [(8,fun st=>[si 6])]
def qRt:=ljT [(4,fun st=>[si 17])]
def qRu:=ljT [(4,fun st=>[si 17])]
def qSJ:List (Nat×Option (List Kd)):=[(93,none),(71,none),(73,none),(92,some [.int .i64]),(33,some [.int .i64]),(158,some [.int .i64]),(103,none),(112,none),(34,none),(41,none),(50,none),(166,none),(167,none),(16,some [.bool]),(53,some [.bool])]
def qSK:FuncId→List VK→Option (Option (List Kd)):=qBB qSJ []
def LWs:List (Nat×(Nat→St aC.T→Option (List Ld))):=[(92,qSD),(33,qSE),(158,qSF),(103,qSG),(112,qSH),(16,qRt),(53,qRu)]
def JWs:List (Nat×(Nat→St aC.T→Option (List Ld))):=[(112,qSI)]
def LWf(f:FuncId)(id:Nat)(st:St aC.T):Option (List Ld):=match aQ LWs f with | some L=>L id st | none=>none
def JWf(f:FuncId)(id:Nat)(st:St aC.T):Option (List Ld):=match aQ JWs f with | some L=>L id st | none=>none
def exI(C:Con aC.T)(cj:FuncId→Option CJK):Nat→ExR aC.T:=exN (hdT aC Tryz.prog C (fun _=>false) 1000 5) cj qSK LWf JWf 8
theorem bL{C:Con aC.T}{cj:FuncId→Option CJK}(h:jL C cj):oJ (exI C cj):=vQ (iJ mixed hno h.1 _ _ _) (qF h)
def IT0:T3:=[(86,oN,none),(87,oO,none),(88,oP,none),(89,oQ,none),(90,oU,none),(84,oV,none),(142,kZ,none),(85,oZ,none),(83,mD,none),(104,mE,none),(160,xO,none),(36,xO,none),(38,xO,none),(40,xO,none),(42,xO,none),(43,xO,none),(44,xO,none),(46,xO,none),(47,xO,none),(48,xO,none),(49,xO,none),(116,xO,none),(115,xO,none)]
theorem qP1:oK IT0:=aD tN aY (aD tO aY (aD tQ aY (aD tT aY (aD tV aY (aD tX aY (aD oW aY (aD tY aY (aD qH aY (aD qI aY (aD zI aY (aD zI aY (aD zI aY (aD zI aY (aD zI aY (aD zI aY (aD zI aY (aD zI aY (aD zI aY (aD zI aY (aD zI aY (aD zI aY (aD zI aY (gQ)))))))))))))))))))))))
def IU0:Con aC.T:=qE IT0 (fun _=>none)
def IJ0:FuncId→Option CJK:=cj3 IT0 (fun _=>none)
theorem mF:jL IU0 IJ0:=eO qP1 lZ
def qHx:=uP (exI IU0 IJ0) noL noL 37 0 1 [.one (.own 0 80 false),.one (.int .i64),.one (.int .i64)] [.one (.own 1 80 true)] []
def xP(l:List Ct)(i:Int)(j:Int):Bool:=(qHx (l,i,j,())).isSome
def qA2(l:List Ct)(i:Int)(j:Int):(List Ct×Unit)×Unit:=(qHx (l,i,j,())).getD (([],()),())
def qHy:TB:=xI aC 0 1 1 [.one (.own 0 80 false),.one (.int .i64),.one (.int .i64)] [.one (.own 1 80 true)] [] (fun a=>xP a.1 a.2.1 a.2.2.1) (fun a=>qA2 a.1 a.2.1 a.2.2.1)
theorem qMV:aN 37 qHy:=rP (bL mF) (by kernel_rfl)
def qLq:=ljT [(4,fun st=>[si 13])]
def qHz:=uX (exI IU0 IJ0) qLq noL 52 [.dat 9,.dat 9] [.bool]
def sF(a:List B)(b:List B):Bool:=(qHz (a,b,())).isSome
def xQ(a:List B)(b:List B):Bool×Unit:=(qHz (a,b,())).getD (false,())
def qH0:TB:=lT aC [.dat 9,.dat 9] [.bool] (fun a=>sF a.1 a.2.1) (fun a=>xQ a.1 a.2.1)
theorem qMW:aN 52 qH0:=rXb (bL mF) (by kernel_rfl) rfl rfl fun _=>rfl
def qLr:=ljT [(4,fun st=>[si 13])]
def qH1:=uX (exI IU0 IJ0) qLr noL 57 [.dat 3,.dat 3] [.bool]
def jY(a:List Int)(b:List Int):Bool:=(qH1 (a,b,())).isSome
def mX(a:List Int)(b:List Int):Bool×Unit:=(qH1 (a,b,())).getD (false,())
def qH2:TB:=lT aC [.dat 3,.dat 3] [.bool] (fun a=>jY a.1 a.2.1) (fun a=>mX a.1 a.2.1)
theorem qMX:aN 57 qH2:=rXb (bL mF) (by kernel_rfl) rfl rfl fun _=>rfl
def qMY:=ljT [(4,fun st=>[si 13])]
def qLs:=uX (exI IU0 IJ0) qMY noL 15 [.dat 41,.dat 41] [.bool]
def xR(a:List Nd)(b:List Nd):Bool:=(qLs (a,b,())).isSome
def qBD(a:List Nd)(b:List Nd):Bool×Unit:=(qLs (a,b,())).getD (false,())
def qLt:TB:=lT aC [.dat 41,.dat 41] [.bool] (fun a=>xR a.1 a.2.1) (fun a=>qBD a.1 a.2.1)
theorem qP2:aN 15 qLt:=rXb (bL mF) (by kernel_rfl) rfl rfl fun _=>rfl
def qMZ:=ljT [(4,fun st=>[si 13])]
def qLu:=uX (exI IU0 IJ0) qMZ noL 18 [.dat 80,.dat 80] [.bool]
def xS(a:List Ct)(b:List Ct):Bool:=(qLu (a,b,())).isSome
def qBE(a:List Ct)(b:List Ct):Bool×Unit:=(qLu (a,b,())).getD (false,())
def qLv:TB:=lT aC [.dat 80,.dat 80] [.bool] (fun a=>xS a.1 a.2.1) (fun a=>qBE a.1 a.2.1)
theorem qP3:aN 18 qLv:=rXb (bL mF) (by kernel_rfl) rfl rfl fun _=>rfl
def qNa:=ljT [(4,fun st=>[si 13])]
def qLw:=uX (exI IU0 IJ0) qNa noL 19 [.dat 83,.dat 83] [.bool]
def xU(a:List Sl)(b:List Sl):Bool:=(qLw (a,b,())).isSome
def qBF(a:List Sl)(b:List Sl):Bool×Unit:=(qLw (a,b,())).getD (false,())
def qLx:TB:=lT aC [.dat 83,.dat 83] [.bool] (fun a=>xU a.1 a.2.1) (fun a=>qBF a.1 a.2.1)
theorem qP4:aN 19 qLx:=rXb (bL mF) (by kernel_rfl) rfl rfl fun _=>rfl
def qNb:=ljT [(4,fun st=>[si 13])]
def qLy:=uX (exI IU0 IJ0) qNb noL 20 [.dat 46,.dat 46] [.bool]
def xV(a:List Pn)(b:List Pn):Bool:=(qLy (a,b,())).isSome
def qBG(a:List Pn)(b:List Pn):Bool×Unit:=(qLy (a,b,())).getD (false,())
def qLz:TB:=lT aC [.dat 46,.dat 46] [.bool] (fun a=>xV a.1 a.2.1) (fun a=>qBG a.1 a.2.1)
theorem qP5:aN 20 qLz:=rXb (bL mF) (by kernel_rfl) rfl rfl fun _=>rfl
def qNc:=ljT [(4,fun st=>[si 13])]
def qL0:=uX (exI IU0 IJ0) qNc noL 56 [.dat 51,.dat 51] [.bool]
def xW(a:List Ak)(b:List Ak):Bool:=(qL0 (a,b,())).isSome
def qBH(a:List Ak)(b:List Ak):Bool×Unit:=(qL0 (a,b,())).getD (false,())
def qL1:TB:=lT aC [.dat 51,.dat 51] [.bool] (fun a=>xW a.1 a.2.1) (fun a=>qBH a.1 a.2.1)
theorem qP6:aN 56 qL1:=rXb (bL mF) (by kernel_rfl) rfl rfl fun _=>rfl
def qNd:=ljT [(4,fun st=>[si 13])]
def qL2:=uX (exI IU0 IJ0) qNd noL 55 [.dat 64,.dat 64] [.bool]
def xX(a:List Cp)(b:List Cp):Bool:=(qL2 (a,b,())).isSome
def qBI(a:List Cp)(b:List Cp):Bool×Unit:=(qL2 (a,b,())).getD (false,())
def qL3:TB:=lT aC [.dat 64,.dat 64] [.bool] (fun a=>xX a.1 a.2.1) (fun a=>qBI a.1 a.2.1)
theorem qP7:aN 55 qL3:=rXb (bL mF) (by kernel_rfl) rfl rfl fun _=>rfl
def qH3:=uX (exI IU0 IJ0) noL noL 143 [.dat 3] [.dat 3]
def jZ(l:List Int):Bool:=(qH3 (l,())).isSome
def mY(l:List Int):(List Int)×Unit:=(qH3 (l,())).getD ([],())
def qH4:TB:=fzR (con [.dat 3] [.dat 3] (fun a=>jZ a.1) (fun a=>mY a.1) rfl)
theorem qNe:aN 143 qH4:=rX (bL mF) (by kernel_rfl) rfl rfl
def IT1:T3:=[(37,qHy,some (jA aC 0 1 1 [.one (.own 0 80 false),.one (.int .i64),.one (.int .i64)] [.one (.own 1 80 true)] [] (fun a=>xP a.1 a.2.1 a.2.2.1) (fun a=>qA2 a.1 a.2.1 a.2.2.1))),(52,qH0,some (jB aC [.dat 9,.dat 9] [.bool] (fun a=>sF a.1 a.2.1) (fun a=>xQ a.1 a.2.1))),(57,qH2,some (jB aC [.dat 3,.dat 3] [.bool] (fun a=>jY a.1 a.2.1) (fun a=>mX a.1 a.2.1))),(15,qLt,some (jB aC [.dat 41,.dat 41] [.bool] (fun a=>xR a.1 a.2.1) (fun a=>qBD a.1 a.2.1))),(18,qLv,some (jB aC [.dat 80,.dat 80] [.bool] (fun a=>xS a.1 a.2.1) (fun a=>qBE a.1 a.2.1))),(19,qLx,some (jB aC [.dat 83,.dat 83] [.bool] (fun a=>xU a.1 a.2.1) (fun a=>qBF a.1 a.2.1))),(20,qLz,some (jB aC [.dat 46,.dat 46] [.bool] (fun a=>xV a.1 a.2.1) (fun a=>qBG a.1 a.2.1))),(56,qL1,some (jB aC [.dat 51,.dat 51] [.bool] (fun a=>xW a.1 a.2.1) (fun a=>qBH a.1 a.2.1))),(55,qL3,some (jB aC [.dat 64,.dat 64] [.bool] (fun a=>xX a.1 a.2.1) (fun a=>qBI a.1 a.2.1))),(143,qH4,some (jX [.dat 3] [.dat 3] (fun a=>jZ a.1) (fun a=>mY a.1)))]
theorem qP8:oK IT1:=aD qMV (jW zH) (aD qMW (jW kF) (aD qMX (jW kF) (aD qP2 (jW kF) (aD qP3 (jW kF) (aD qP4 (jW kF) (aD qP5 (jW kF) (aD qP6 (jW kF) (aD qP7 (jW kF) (aD qNe (jW (qGo rfl)) (gQ))))))))))
def IU1:Con aC.T:=qE IT1 IU0
def IJ1:FuncId→Option CJK:=cj3 IT1 IJ0
theorem qBJ:jL IU1 IJ1:=eO qP8 mF
def qH5:=uX (exI IU1 IJ1) noL noL 17 [.rcd 44,.rcd 44] [.bool]
def pE(a:Ap)(b:Ap):Bool:=(qH5 (a,b,())).isSome
def tZ(a:Ap)(b:Ap):Bool×Unit:=(qH5 (a,b,())).getD (false,())
def qH6:TB:=lT aC [.rcd 44,.rcd 44] [.bool] (fun a=>pE a.1 a.2.1) (fun a=>tZ a.1 a.2.1)
theorem qNf:aN 17 qH6:=rXb (bL qBJ) (by kernel_rfl) rfl rfl fun _=>rfl
def qH7:=uX (exI IU1 IJ1) noL noL 54 [.rcd 67,.rcd 67] [.bool]
def pF(a:Qu)(b:Qu):Bool:=(qH7 (a,b,())).isSome
def uA(a:Qu)(b:Qu):Bool×Unit:=(qH7 (a,b,())).getD (false,())
def qH8:TB:=lT aC [.rcd 67,.rcd 67] [.bool] (fun a=>pF a.1 a.2.1) (fun a=>uA a.1 a.2.1)
theorem qNg:aN 54 qH8:=rXb (bL qBJ) (by kernel_rfl) rfl rfl fun _=>rfl
def qL4:=uX (exI IU1 IJ1) noL noL 91 [.rcd 44] [.rcd 44]
def uB(a:Ap):Bool:=(qL4 (a,())).isSome
def zJ(a:Ap):Ap×Unit:=(qL4 (a,())).getD (dAp,())
def qL5:TB:=fzR (con [.rcd 44] [.rcd 44] (fun a=>uB a.1) (fun a=>zJ a.1) rfl)
theorem qP9:aN 91 qL5:=rX (bL qBJ) (by kernel_rfl) rfl rfl
def qOx:=uX (exI IU1 IJ1) noL noL 35 [.rcd 36,.int .i64] [.int .i64]
def zK(s:Se)(id:Int):Bool:=(qOx (s,id,())).isSome
def qCO(s:Se)(id:Int):Int×Unit:=(qOx (s,id,())).getD ((0:Int),())
def qOy:TB:=lT aC [.rcd 36,.int .i64] [.int .i64] (fun a=>zK a.1 a.2.1) (fun a=>qCO a.1 a.2.1)
theorem qRv:aN 35 qOy:=rXb (bL qBJ) (by kernel_rfl) rfl rfl fun _=>rfl
def IT2:T3:=[(17,qH6,some (jB aC [.rcd 44,.rcd 44] [.bool] (fun a=>pE a.1 a.2.1) (fun a=>tZ a.1 a.2.1))),(54,qH8,some (jB aC [.rcd 67,.rcd 67] [.bool] (fun a=>pF a.1 a.2.1) (fun a=>uA a.1 a.2.1))),(91,qL5,some (jX [.rcd 44] [.rcd 44] (fun a=>uB a.1) (fun a=>zJ a.1))),(35,qOy,some (jB aC [.rcd 36,.int .i64] [.int .i64] (fun a=>zK a.1 a.2.1) (fun a=>qCO a.1 a.2.1)))]
theorem qPA:oK IT2:=aD qNf (jW kF) (aD qNg (jW kF) (aD qP9 (jW (qGo rfl)) (aD qRv (jW kF) (gQ))))
def IU2:Con aC.T:=qE IT2 IU1
def IJ2:FuncId→Option CJK:=cj3 IT2 IJ1
theorem qDC:jL IU2 IJ2:=eO qPA qBJ
def qH9:=uX (exI IU2 IJ2) noL noL 14 [.rcd 29,.rcd 29] [.bool]
def sG(a:Cf)(b:Cf):Bool:=(qH9 (a,b,())).isSome
def xY(a:Cf)(b:Cf):Bool×Unit:=(qH9 (a,b,())).getD (false,())
def qHA:TB:=lT aC [.rcd 29,.rcd 29] [.bool] (fun a=>sG a.1 a.2.1) (fun a=>xY a.1 a.2.1)
theorem qNh:aN 14 qHA:=rXb (bL qDC) (by kernel_rfl) rfl rfl fun _=>rfl
def qHB:=ljT [(3,fun st=>[si 23]++qC9 st 21 67),(10,fun st=>[si 61]++qC9 st 59 44)]
def qGr:=uO (exI IU2 IJ2) qHB noL 32 [.rcd 36] [stA]
def qJ(s:Se):Bool:=(qGr (s,())).isSome
def vR(s:Se):StT×Unit:=(qGr (s,())).getD (stD,())
def qL6:TB:=fzR (mJ [.rcd 36] [stA] (fun a=>qJ a.1) (fun a=>vR a.1) rfl)
theorem qPB:aN 32 qL6:=rO (bL qDC) (by kernel_rfl) rfl (by simp) fun _=>by kernel_rfl
def IT3:T3:=[(14,qHA,some (jB aC [.rcd 29,.rcd 29] [.bool] (fun a=>sG a.1 a.2.1) (fun a=>xY a.1 a.2.1))),(32,qL6,some (jO [.rcd 36] [stA] (fun a=>qJ a.1) (fun a=>vR a.1)))]
theorem qPC:oK IT3:=aD qNh (jW kF) (aD qPB (jW (qBA rfl)) (gQ))
def IU3:Con aC.T:=qE IT3 IU2
def IJ3:FuncId→Option CJK:=cj3 IT3 IJ2
theorem qBK:jL IU3 IJ3:=eO qPC qDC
def qEW:=ljT [(3,fun st=>[si 16]++qLl st 2 hS)]
def qEX:=ljT [(18,fun st=>qC8 st 10 [.rcd 44])]
def qDD:=uO (exI IU3 IJ3) qEW qEX 12 [.rcd 36,.dat 3] [stA]
def mG(s:Se)(ids:List Int):Bool:=(qDD (s,ids,())).isSome
def qK(s:Se)(ids:List Int):StT×Unit:=(qDD (s,ids,())).getD (stD,())
def qHC:TB:=fzR (mJ [.rcd 36,.dat 3] [stA] (fun a=>mG a.1 a.2.1) (fun a=>qK a.1 a.2.1) rfl)
theorem qNi:aN 12 qHC:=rO (bL qBK) (by kernel_rfl) rfl (by simp) fun _=>by kernel_rfl
def qGs:=uO (exI IU3 IJ3) noL noL 118 [.rcd 36,.rcd 44] [stA]
def xZ(s:Se)(a:Ap):Bool:=(qGs (s,a,())).isSome
def qBL(s:Se)(a:Ap):StT×Unit:=(qGs (s,a,())).getD (stD,())
def qGt:TB:=fzR (mJ [.rcd 36,.rcd 44] [stA] (fun a=>xZ a.1 a.2.1) (fun a=>qBL a.1 a.2.1) rfl)
theorem qL7:aN 118 qGt:=rO (bL qBK) (by kernel_rfl) rfl (by simp) fun _=>by kernel_rfl
def IT4:T3:=[(12,qHC,some (jO [.rcd 36,.dat 3] [stA] (fun a=>mG a.1 a.2.1) (fun a=>qK a.1 a.2.1))),(118,qGt,some (jO [.rcd 36,.rcd 44] [stA] (fun a=>xZ a.1 a.2.1) (fun a=>qBL a.1 a.2.1)))]
theorem qPD:oK IT4:=aD qNi (jW (qBA rfl)) (aD qL7 (jW (qBA rfl)) (gQ))
def IU4:Con aC.T:=qE IT4 IU3
def IJ4:FuncId→Option CJK:=cj3 IT4 IJ3
theorem qL8:jL IU4 IJ4:=eO qPD qBK
def qHD:=uO (exI IU4 IJ4) noL noL 143 [.dat 3] [.one (.own 0 3 false)]
def qEY(l:List Int):Bool:=(qHD (l,())).isSome
def qHE(l:List Int):List Int×Unit:=(qHD (l,())).getD ([],())
def qHF:TB:=fzR (mJ [.dat 3] [.one (.own 0 3 false)] (fun a=>qEY a.1) (fun a=>qHE a.1) rfl)
theorem qNj:aN 143 qHF:=rO (bL qL8) (by kernel_rfl) rfl (by simp) fun _=>by kernel_rfl
def IT5:T3:=[(143,qHF,some (jO [.dat 3] [.one (.own 0 3 false)] (fun a=>qEY a.1) (fun a=>qHE a.1)))]
theorem qPE:oK IT5:=aD qNj (jW (qBA rfl)) (gQ)
def IU5:Con aC.T:=qE IT5 IU4
def IJ5:FuncId→Option CJK:=cj3 IT5 IJ4
theorem qBM:jL IU5 IJ5:=eO qPE qL8
def qL9:=uO (exI IU5 IJ5) noL noL 91 [.rcd 44] [apA]
def qHG(a:Ap):Bool:=(qL9 (a,())).isSome
def qLA(a:Ap):ApT×Unit:=(qL9 (a,())).getD (apD,())
def qLB:TB:=fzR (mJ [.rcd 44] [apA] (fun a=>qHG a.1) (fun a=>qLA a.1) rfl)
theorem qPF:aN 91 qLB:=rO (bL qBM) (by kernel_rfl) rfl (by simp) fun _=>by kernel_rfl
def qJi:=ljT [(3,fun st=>[oC st 5 80 false,si 12]),(6,fun st=>[oC st 5 80 false,si 22])]
def qJj:=ljT [(10,fun st=>[oC st 5 80 false]),(11,fun st=>[oC st 5 80 false])]
def qEZ:=uP (exI IU5 IJ5) qJi qJj 113 1 6 [.ptr 0 (stX 1),.one (.dat 3)] [.one (.dat 80)] [.ptr 0 (stX 6)]
def qCP(t:StX)(ids:List Int):Bool:=(qEZ (t,ids,())).isSome
def qFa(t:StX)(ids:List Int):(List Ct×Unit)×StX×Unit:=(qEZ (t,ids,())).getD (([],()),qLp,())
def qFb:TB:=xI aC 1 6 5 [.ptr 0 (stX 1),.one (.dat 3)] [.one (.dat 80)] [.ptr 0 (stX 6)] (fun a=>qCP a.1 a.2.1) (fun a=>qFa a.1 a.2.1)
theorem qLC:aN 113 qFb:=rP (bL qBM) (by kernel_rfl)
def qFc:=ljT [(3,fun st=>[oC st 5 3 false,si 14])]
def qFd:=ljT [(7,fun st=>[oC st 5 3 false])]
def qBN:=uP (exI IU5 IJ5) qFc qFd 114 1 6 [.ptr 0 (stX 1),.one (.int .i64)] [.one (.dat 3)] [.ptr 0 (stX 6)]
def qAn(t:StX)(app:Int):Bool:=(qBN (t,app,())).isSome
def qBO(t:StX)(app:Int):(List Int×Unit)×StX×Unit:=(qBN (t,app,())).getD (([],()),qLp,())
def qBP:TB:=xI aC 1 6 5 [.ptr 0 (stX 1),.one (.int .i64)] [.one (.dat 3)] [.ptr 0 (stX 6)] (fun a=>qAn a.1 a.2.1) (fun a=>qBO a.1 a.2.1)
theorem qGu:aN 114 qBP:=rP (bL qBM) (by kernel_rfl)
def qLD:=ljT [(2,fun st=>[si 12]++qHw st 0++qLl st 4 hAg)]
def qLE:=ljT [(8,fun st=>qHw st 0++qLl st 4 hAg)]
def qHH:=uP (exI IU5 IJ5) qLD qLE 117 1 11 [.ptr 0 (stX 1),.st (apX 6),.one (.dat 3)] [.st (qP0 16)] [.ptr 0 (stX 11)]
def qFe(t:StX)(a:ApT)(ids:List Int):Bool:=(qHH (t,a,ids,())).isSome
def qHI(t:StX)(a:ApT)(ids:List Int):(ApT×Unit)×StX×Unit:=(qHH (t,a,ids,())).getD ((apD,()),qLp,())
def qHJ:TB:=xI aC 1 11 10 [.ptr 0 (stX 1),.st (apX 6),.one (.dat 3)] [.st (qP0 16)] [.ptr 0 (stX 11)] (fun a=>qFe a.1 a.2.1 a.2.2.1) (fun a=>qHI a.1 a.2.1 a.2.2.1)
theorem qNk:aN 117 qHJ:=rP (bL qBM) (by kernel_rfl)
def IT6:T3:=[(91,qLB,some (jO [.rcd 44] [apA] (fun a=>qHG a.1) (fun a=>qLA a.1))),(113,qFb,some (jA aC 1 6 5 [.ptr 0 (stX 1),.one (.dat 3)] [.one (.dat 80)] [.ptr 0 (stX 6)] (fun a=>qCP a.1 a.2.1) (fun a=>qFa a.1 a.2.1))),(114,qBP,some (jA aC 1 6 5 [.ptr 0 (stX 1),.one (.int .i64)] [.one (.dat 3)] [.ptr 0 (stX 6)] (fun a=>qAn a.1 a.2.1) (fun a=>qBO a.1 a.2.1))),(117,qHJ,some (jA aC 1 11 10 [.ptr 0 (stX 1),.st (apX 6),.one (.dat 3)] [.st (qP0 16)] [.ptr 0 (stX 11)] (fun a=>qFe a.1 a.2.1 a.2.2.1) (fun a=>qHI a.1 a.2.1 a.2.2.1)))]
theorem qPG:oK IT6:=aD qPF (jW (qBA rfl)) (aD qLC (jW zH) (aD qGu (jW zH) (aD qNk (jW zH) (gQ))))
def IU6:Con aC.T:=qE IT6 IU5
def IJ6:FuncId→Option CJK:=cj3 IT6 IJ5
theorem qLF:jL IU6 IJ6:=eO qPG qBM
def qGv:=ljT [(13,fun st=>[si 78]++qHw st 0++qLl st 3 hA)]
def qGw:=ljT [(2,fun st=>[.ptr 3 st.hp.nx (apX (Nat.add st.hp.nx 1)),.slot 4 .bool]),(22,fun st=>qHw st 0++qC8 st 3 qMU++qLm st 3)]
def qCQ:=uP (exI IU6 IJ6) qGv qGw 45 1 6 [.ptr 0 (stX 1)] [.one (.rcd 55)] [.ptr 0 (stX 6)]
def vT(t:StX):Bool:=(qCQ (t,())).isSome
def zL(t:StX):(Ou×Unit)×StX×Unit:=(qCQ (t,())).getD ((dOu,()),qLp,())
def qCR:TB:=xI aC 1 6 5 [.ptr 0 (stX 1)] [.one (.rcd 55)] [.ptr 0 (stX 6)] (fun a=>vT a.1) (fun a=>zL a.1)
theorem qJk:aN 45 qCR:=rP (bL qLF) (by kernel_rfl)
def IT7:T3:=[(45,qCR,some (jA aC 1 6 5 [.ptr 0 (stX 1)] [.one (.rcd 55)] [.ptr 0 (stX 6)] (fun a=>vT a.1) (fun a=>zL a.1)))]
theorem qPH:oK IT7:=aD qJk (jW zH) (gQ)
def IU7:Con aC.T:=qE IT7 IU6
def IJ7:FuncId→Option CJK:=cj3 IT7 IJ6
theorem qLG:jL IU7 IJ7:=eO qPH qLF
def qOz:=uP (exI IU7 IJ7) noL noL 13 1 6 [.ptr 0 (stX 1)] [.one (.rcd 55)] [.ptr 0 (stX 6)]
def vU(t:StX):Bool:=(qOz (t,())).isSome
def qBQ(t:StX):(Ou×Unit)×StX×Unit:=(qOz (t,())).getD ((dOu,()),qLp,())
def qO0:TB:=xI aC 1 6 5 [.ptr 0 (stX 1)] [.one (.rcd 55)] [.ptr 0 (stX 6)] (fun a=>vU a.1) (fun a=>qBQ a.1)
theorem qRw:aN 13 qO0:=rP (bL qLG) (by kernel_rfl)
def IT8:T3:=[(13,qO0,some (jA aC 1 6 5 [.ptr 0 (stX 1)] [.one (.rcd 55)] [.ptr 0 (stX 6)] (fun a=>vU a.1) (fun a=>qBQ a.1)))]
theorem qPI:oK IT8:=aD qRw (jW zH) (gQ)
def IU8:Con aC.T:=qE IT8 IU7
def IJ8:FuncId→Option CJK:=cj3 IT8 IJ7
theorem qLH:jL IU8 IJ8:=eO qPI qLG
def qHK:=uX (exI IU8 IJ8) noL noL 8 [.rcd 36,.rcd 48] [.rcd 36,.rcd 55]
def sH(s:Se)(x:Ip):Bool:=(qHK (s,x,())).isSome
def qL(s:Se)(x:Ip):Se×Ou×Unit:=(qHK (s,x,())).getD (dSe,dOu,())
def qHL:TB:=fzR (con [.rcd 36,.rcd 48] [.rcd 36,.rcd 55] (fun a=>sH a.1 a.2.1) (fun a=>qL a.1 a.2.1) rfl)
theorem qNl:aN 8 qHL:=rX (bL qLH) (by kernel_rfl) rfl rfl
def qHM:=uX (exI IU8 IJ8) noL noL 10 [.rcd 36,.rcd 36] [.bool]
def kC(s:Se)(t:Se):Bool:=(qHM (s,t,())).isSome
def mZ(s:Se)(t:Se):Bool×Unit:=(qHM (s,t,())).getD (false,())
def qDE:TB:=lT aC [.rcd 36,.rcd 36] [.bool] (fun a=>kC a.1 a.2.1) (fun a=>mZ a.1 a.2.1)
theorem qHN:aN 10 qDE:=rXb (bL qLH) (by kernel_rfl) rfl rfl fun _=>rfl
end Go.Proofs.YtclpnndkhbnaoaaGreatDoor
