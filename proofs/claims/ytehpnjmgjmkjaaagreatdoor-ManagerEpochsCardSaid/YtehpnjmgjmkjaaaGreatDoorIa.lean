/- Part of the proof. No conditions. -/
import Derived.Test.YtehpnjmgjmkjaaaGreatDoorCl
import Derived.Test.YtehpnjmgjmkjaaaGreatDoorVi
noncomputable section
namespace Go.Proofs.YtehpnjmgjmkjaaaGreatDoor
open Go Go.W Go.Proofs
set_option maxRecDepth 100000
abbrev Ko:=fV aC
def mF(ex:Nat→ExR aC.T)(L J:Nat→St aC.T→Option (List Ld))(f:Nat)(ka kr:List Kd)(a:Ka ka):DT (Ka kr):=match Tryz.prog.funcs[f]? with
 | some fn=>qIs aC Tryz.prog ex 1000 L J fn (qD4 aC ka a) ⟨.e,0,[]⟩ (qZK aC kr)
 | none=>.bad
def xM(ex:Nat→ExR aC.T)(L J:Nat→St aC.T→Option (List Ld))(f:Nat)(ka:List Kd)(kr:List Ans)(a:Ka ka):DT (Ko kr):=match Tryz.prog.funcs[f]? with
 | some fn=>qIt aC Tryz.prog ex 1000 L J fn (qD4 aC ka a) ⟨.e,0,[]⟩ (zJl aC kr)
 | none=>.bad
def qHf(ka:List Kd)(kr:List Ans)(pre:Ka ka→Bool)(M:Ka ka→Ko kr)(hk:ka.all eH=true):TB:=(qEb aC ka kr pre M).con (pK ka kr pre M hk)
abbrev qM5(ex:Nat→ExR aC.T):Prop:=∀nt,nt≤1000000→qEY Tryz.prog nt (ex nt)
theorem zIH{f:Nat}(ht:(match Tryz.prog.funcs[f]? with | some fn=>!fn.body.isNone | none=>false)=true):∃fn,Tryz.prog.funcs[f]? = some fn:=by
 split at ht
 ·rename_i fn h;exact⟨fn,h⟩
 ·cases ht
theorem qQA{ex:Nat→ExR aC.T}(hex:qM5 ex){L J:Nat→St aC.T→Option (List Ld)}{f:Nat}(ht:(match Tryz.prog.funcs[f]? with | some fn=>!fn.body.isNone | none=>false)=true){ka kr:List Kd}(hkr:kr.all eH=true){pre:Ka ka→Bool}{M:Ka ka→Ka kr}
  (h:∀a,pre a=true→(mF ex L J f ka kr a).G (M a)):xX Tryz.prog f (qB4 aC ka kr pre M):=by
 obtain⟨fn,hfn⟩:=zIH ht
 refine qUU (fuel:=1000) (L:=L) (J:=J) hex hfn (there f ht) hkr fun a ha=>?_
 have:= h a ha
 unfold mF at this
 rw[hfn] at this
 exact this
theorem yI{ex:Nat→ExR aC.T}(hex:qM5 ex){L J:Nat→St aC.T→Option (List Ld)}{f:Nat}(ht:(match Tryz.prog.funcs[f]? with | some fn=>!fn.body.isNone | none=>false)=true){ka:List Kd}{kr:List Ans}(hne:kr≠[])(hly:∀x,qRJ aC kr x=true){pre:Ka ka→Bool}{M:Ka ka→Ko kr}
  (h:∀a,pre a=true→(xM ex L J f ka kr a).G (M a)):xX Tryz.prog f (qEb aC ka kr pre M):=by
 obtain⟨fn,hfn⟩:=zIH ht
 refine qUV (fuel:=1000) (L:=L) (J:=J) hex hfn (there f ht) hne hly fun a ha=>?_
 have:= h a ha
 unfold xM at this
 rw[hfn] at this
 exact this
theorem qQB{α β:Type}{t:α→DT β}{u:α→Option β}(hu:u=hide fun a=>(t a).val)(d:β)(a:α)(ha:(u a).isSome=true):(t a).G ((u a).getD d):=by
 rw[hu,qA2] at ha ⊢
 exact DT.qRB ha
theorem qYI{ex:Nat→ExR aC.T}(hex:qM5 ex){L J:Nat→St aC.T→Option (List Ld)}{f:Nat}(ht:(match Tryz.prog.funcs[f]? with | some fn=>!fn.body.isNone | none=>false)=true){ka kr:List Kd}(hk:ka.all eH=true)(hkr:kr.all eH=true)(d:Ka kr){u:Ka ka→Option (Ka kr)}
  (hu:u=hide fun a=>(mF ex L J f ka kr a).val):aM f (fzR (con ka kr (fun a=>(u a).isSome) (fun a=>(u a).getD d) hk)) :=
 oF (Spec.nZ (qQA hex ht hkr (fun a ha=>qQB hu d a ha)) (qEZ ka kr _ _ hk) fun _=>Nat.zero_le _)
theorem rM{ex:Nat→ExR aC.T}(hex:qM5 ex){L J:Nat→St aC.T→Option (List Ld)}{f:Nat}(ht:(match Tryz.prog.funcs[f]? with | some fn=>!fn.body.isNone | none=>false)=true){ka kr:List Kd}(hk:ka.all eH=true)(hkr:kr.all eH=true)(d:Ka kr){u:Ka ka→Option (Ka kr)}
  (hu:u=hide fun a=>(mF ex L J f ka kr a).val) (hfl:∀a:Ka ka,qHy (encR aC kr ((u a).getD d))=true):aM f (fM aC ka kr (fun a=>(u a).isSome) (fun a=>(u a).getD d)) :=
 qXw (qQA hex ht hkr (fun a ha=>qQB hu d a ha)) hk hfl
theorem zII{ex:Nat→ExR aC.T}(hex:qM5 ex){L J:Nat→St aC.T→Option (List Ld)}{f:Nat}(ht:(match Tryz.prog.funcs[f]? with | some fn=>!fn.body.isNone | none=>false)=true){ka:List Kd}{kr:List Ans}(hk:ka.all eH=true)(hne:kr≠[])(hly:∀x,qRJ aC kr x=true)(d:Ko kr){u:Ka ka→Option (Ko kr)}
  (hu:u=hide fun a=>(xM ex L J f ka kr a).val):aM f (fzR (qHf ka kr (fun a=>(u a).isSome) (fun a=>(u a).getD d) hk)) :=
 oF (Spec.nZ (yI hex ht hne hly (fun a ha=>qQB hu d a ha)) (pK ka kr _ _ hk) fun _=>Nat.zero_le _)
abbrev CJK:=CJ aC.T
def qQC(c:TB)(j:CJK):Prop:=(∀args h,DT.iR (j args h))∧∀args h (α:Type) (k:VK×Hp aC.T→DT α) (x:α),(j args h α k).G x→(c args h).K fun r=>(k r).G x
theorem wH{ka kr:List Kd}{pre:Ka ka→Bool}{M:Ka ka→Ka kr}:qQC (fM aC ka kr pre M) (jB aC ka kr pre M):=⟨zJn,fun _ _ _ _ _ h=>zMy h⟩
def jX(ka kr:List Kd)(pre:Ka ka→Bool)(M:Ka ka→Ka kr):CJK:=jS aC ka (fun r=>(encR aC kr r,[])) pre M
def jO(ka:List Kd)(kr:List Ans)(pre:Ka ka→Bool)(M:Ka ka→Ko kr):CJK:=jS aC ka (fun r=>(qJC aC kr r,(kU aC kr r).map some)) pre M
theorem qW8{ka kr:List Kd}{pre:Ka ka→Bool}{M:Ka ka→Ka kr}(hk:ka.all eH=true):qQC (fzR (con ka kr pre M hk)) (jX ka kr pre M):=⟨zCs,fun _ _ _ _ _ h=>zMz hk h⟩
theorem zFE{ka:List Kd}{kr:List Ans}{pre:Ka ka→Bool}{M:Ka ka→Ko kr}(hk:ka.all eH=true):qQC (fzR (qHf ka kr pre M hk)) (jO ka kr pre M):=⟨zCs,fun _ _ _ _ _ h=>zM0 hk h⟩
def qUc{α:Type 1}:List (Nat×α)→Nat→Option α
 | [],_=>none
 | (i,x)::l,j=>(match Nat.beq i j with | true=>some x | false=>qUc l j)
abbrev T3:=List (Nat×TB×Option CJK)
def qLZ(l:T3):Prop:=∀f c jo,qUc l f=some (c,jo)→aM f c∧∀j,jo=some j→qQC c j
theorem qE2:qLZ []:=fun f c jo h=>by cases h
theorem bD{f:Nat}{c:TB}{jo:Option CJK}{l:T3}(h:aM f c)(hj:∀j,jo=some j→qQC c j)(hl:qLZ l):qLZ ((f,c,jo)::l):=by
 intro g c' jo' hg
 simp only[qUc] at hg
 split at hg
 ·rename_i hb
  cases hg
  rw[←Nat.eq_of_beq_eq_true hb]
  exact⟨h,hj⟩
 ·exact hl g c' jo' hg
theorem mG{c:TB}:∀j,(none:Option CJK)=some j→qQC c j:=fun _ h=>by cases h
theorem qD7{c:TB}{j:CJK}(h:qQC c j):∀j',some j=some j'→qQC c j':=fun _ e=>by cases e;exact h
def qM6(l:T3)(K:Con aC.T):Con aC.T:=fun f=>match qUc l f with | some (c,_)=>some c | none=>K f
def cj3(l:T3)(K:FuncId→Option CJK):FuncId→Option CJK:=fun f=>match qUc l f with | some (_,jo)=>jo | none=>K f
def qFR(C:Con aC.T)(cj:FuncId→Option CJK):Prop:=iL Tryz.prog C∧∀f j,cj f=some j→∃c,C f=some c∧qQC c j
theorem qMa:qFR (fun _=>none) (fun _=>none):=⟨(fun f S h=>by cases h),(fun f j h=>by cases h)⟩
theorem qAY{l:T3}{K:Con aC.T}{cj:FuncId→Option CJK}(hl:qLZ l)(hK:qFR K cj):qFR (qM6 l K) (cj3 l cj):=by
 refine⟨fun f S hS=>?_,fun f j hj=>?_⟩
 ·unfold qM6 at hS
  split at hS
  ·rename_i c jo hc;cases hS;exact(hl f _ jo hc).1
  ·exact hK.1 f S hS
 ·unfold cj3 at hj
  unfold qM6
  split at hj
  ·rename_i c jo hc;exact⟨c,rfl,(hl f c jo hc).2 j hj⟩
  ·exact hK.2 f j hj
theorem qQD{C:Con aC.T}{cj:FuncId→Option CJK}(h:qFR C cj){fuel n:Nat}:qUS (hdT aC Tryz.prog C (fun _=>false) fuel (n+1)) cj:=by
 intro f c hc
 obtain⟨S,h1,h2,h3⟩:=h.2 f c hc
 refine⟨h2,fun args h α k x hx=>?_⟩
 simp only[hdT,h1]
 exact h3 args h α k x hx
def nl{α:Type}(x:List α):Bool:=(0+x.length).ble x.length&&true&&true
def wh{α:Type}(x:List α):List α:=aH 0 (0+x.length) x
def okX{α β τ:Type}(t:α×β×List Nd×List Ap×List Ct×List Sl×List Pn×τ):Bool:=t.2.2.1.length.beq t.2.2.1.length&&(t.2.2.2.1.length.beq t.2.2.2.1.length&&(t.2.2.2.2.1.length.beq t.2.2.2.2.1.length&&(t.2.2.2.2.2.1.length.beq t.2.2.2.2.2.1.length&&t.2.2.2.2.2.2.1.length.beq t.2.2.2.2.2.2.1.length)))
def seX{τ:Type}(t:List B×List Qu×List Nd×List Ap×List Ct×List Sl×List Pn×Int×Int×Int×τ):Se:=Se.mk (Cf.mk t.1 t.2.1) (wh t.2.2.1) (wh t.2.2.2.1) (wh t.2.2.2.2.1) (wh t.2.2.2.2.2.1) (wh t.2.2.2.2.2.2.1) t.2.2.2.2.2.2.2.1 t.2.2.2.2.2.2.2.2.1 t.2.2.2.2.2.2.2.2.2.1
def zIJ{τ:Type}(s:Int×Int×B×Int×Int×Int×Int×List Ak×Int×Int×List Int×List Int×List Int×List Int×τ):Bool:=s.2.2.2.2.2.2.2.1.length.beq s.2.2.2.2.2.2.2.1.length&&(s.2.2.2.2.2.2.2.2.2.2.1.length.beq s.2.2.2.2.2.2.2.2.2.2.1.length&&(s.2.2.2.2.2.2.2.2.2.2.2.1.length.beq s.2.2.2.2.2.2.2.2.2.2.2.1.length&&(s.2.2.2.2.2.2.2.2.2.2.2.2.1.length.beq s.2.2.2.2.2.2.2.2.2.2.2.2.1.length&&s.2.2.2.2.2.2.2.2.2.2.2.2.2.1.length.beq s.2.2.2.2.2.2.2.2.2.2.2.2.2.1.length)))
@[simp] theorem qIc{α:Type}(x:List α):nl x=true:=by simp[nl]
@[simp] theorem qFS{α:Type}(x:List α):wh x=x:=by simp[wh,aH]
@[simp] theorem qMb{α β τ:Type}(t:α×β×List Nd×List Ap×List Ct×List Sl×List Pn×τ):okX t=true:=by simp[okX]
@[simp] theorem zM5{τ:Type}(s:Int×Int×B×Int×Int×Int×Int×List Ak×Int×Int×List Int×List Int×List Int×List Int×τ):zIJ s=true:=by simp[zIJ]
def kV(v:VK)(e:Nat):Kd:=match v with
 | .d (.int k _)=>.int k
 | .d (.bool _)=>.bool
 | .d (.str _)=>.str
 | .d (.sl e' _)=>.dat e'
 | .sl i _ _ _=>.own i e false
 | _=>.dat e
def zKo:List VK→List Nat→List Kd
 | [],_=>[]
 | v::vs,[]=>kV v 0::zKo vs []
 | v::vs,e::es=>kV v e::zKo vs es
def zM6(st:St aC.T)(t:Nat)(es:List Nat):List Ld:=match st.env.get t with
 | some (.ptr i _ _)=>(match st.hp.get i with
  | some (.rows _ [cs])=>[.obj i (zKo cs es)]
  | _=>[])
 | _=>[]
def hS:List Nat:=[9,114,57,47,50,85,59]
def hA:List Nat:=[0,0,0,0,0,0,0,95,0,0,3,3,3,3]
def zFF(l:List Nat):List VK→Bool
 | []=>false
 | .fn f _ _::vs=>(match kQ l f with | true=>true | false=>zFF l vs)
 | _::vs=>zFF l vs
def zFG(tab:List (Nat×Option (List Kd)))(wr:List Nat)(f:FuncId)(args:List VK):Option (Option (List Kd)):=match dH tab f with
 | some (some kr)=>(match zFF wr args with | true=>some none | false=>some (some kr))
 | x=>x
def exN(hd:Hd aC.T)(cj:FuncId→Option CJK)(inl:FuncId→List VK→Option (Option (List Kd)))(L J:FuncId→Nat→St aC.T→Option (List Ld))(n:Nat):Nat→ExR aC.T:=fun nt=>exC aC Tryz.prog (hcN aC Tryz.prog hd cj inl 1000 L J n) nt
theorem qW9{hd:Hd aC.T}(hHd:bJ Tryz.prog hd){cj:FuncId→Option CJK}(hcj:qUS hd cj){inl:FuncId→List VK→Option (Option (List Kd))}{L J:FuncId→Nat→St aC.T→Option (List Ld)}{n:Nat}:qM5 (exN hd cj inl L J n):=fun _ hnt=>qB3 mixed (qZQ mixed hno hHd hcj n) hnt fun _ _ _ _ _ _ h=>zCl (qP3 hcj n) h
def qC1:Nat→ExR aC.T:=fun nt=>exB aC Tryz.prog nt (exD aC Tryz.prog hd0 nt)
theorem nS:qM5 qC1:=fun _ hnt=>zJo hnt (qB3 mixed eO hnt fun _ _ _ _ _ _ h=>qR4 (DT.kD h))
def qD8:TB:=fun _ _=>.bad
theorem qE3{f:FuncId}:aM f qD8:=fun _ _ _ h=>h.elim
open Go.W.DT (ret need br both)
def mH{α:Type}(b:Nat)(xs:List α):DT (List α×Unit) :=
 br (xs.length.beq 0) (both (ret ([],())) (need (aX (0+xs.length) b&&true) (need ((0+xs.length).beq ([]++xs).length) (ret ([]++xs,())))))
  (need (aX (0+xs.length) b&&true) (need ((0+xs.length).beq ([]++xs).length) (ret ([]++xs,()))))
def qMc{α:Type}(b:Nat)(xs:List α):DT (List α×Unit) :=
 br (xs.length.beq 0) (both (ret ([],())) (need (aX (0+xs.length) b&&true) (need ((0+(0+xs.length)).ble ([]++xs).length) (ret (aH 0 (0+(0+xs.length)) ([]++xs),())))))
  (need (aX (0+xs.length) b&&true) (need ((0+(0+xs.length)).ble ([]++xs).length) (ret (aH 0 (0+(0+xs.length)) ([]++xs),()))))
theorem qC{α:Type}{b:Nat}{xs:List α}(h:aX xs.length b=true):(mH b xs).G (xs,()):=by
 unfold mH
 simp only[Nat.zero_add,List.nil_append,h,Bool.and_true,Nat.beq_refl]
 cases hx:xs.length.beq 0 with
 | true =>
  have: xs=[]:=List.eq_nil_of_length_eq_zero (Nat.eq_of_beq_eq_true hx)
  subst this
  exact⟨rfl,rfl⟩
 | false=>rfl
theorem zFH{α:Type}{b:Nat}{xs:List α}(h:aX xs.length b=true):(qMc b xs).G (xs,()):=by
 unfold qMc
 have e:aH 0 xs.length xs=xs:=by simp[aH]
 simp only[Nat.zero_add,List.nil_append,h,Bool.and_true,Nat.ble_eq_true_of_le (Nat.le_refl _),e]
 cases hx:xs.length.beq 0 with
 | true =>
  have: xs=[]:=List.eq_nil_of_length_eq_zero (Nat.eq_of_beq_eq_true hx)
  subst this
  exact⟨rfl,rfl⟩
 | false=>rfl
theorem zAY(xs:List Nd)(r:List Nd×Unit):(xM qC1 noL noL 179 [.dat 57] [.one (.own 0 57 false)] (xs,())).G r=(mH 64 xs).G r:=by kernel_rfl
def qOI:TB:=fzR (qHf [.dat 57] [.one (.own 0 57 false)] (fun a=>aX (List.length a.1) 64) (fun a=>(a.1,())) rfl)
theorem zAZ:aM 179 qOI:=oF (Spec.nZ (yI nS (L:=noL) (J:=noL) (ka:=[.dat 57]) (kr:=[.one (.own 0 57 false)]) (by kernel_rfl) (by simp) (fun _=>rfl) fun a ha=>Eq.mpr (zAY a.1 _) (qC ha)) (pK _ _ _ _ rfl) fun _=>Nat.zero_le _)
theorem zBa(xs:List Ct)(r:List Ct×Unit):(xM qC1 noL noL 180 [.dat 50] [.one (.own 0 50 false)] (xs,())).G r=(mH 72 xs).G r:=by kernel_rfl
def qOJ:TB:=fzR (qHf [.dat 50] [.one (.own 0 50 false)] (fun a=>aX (List.length a.1) 72) (fun a=>(a.1,())) rfl)
theorem zBb:aM 180 qOJ:=oF (Spec.nZ (yI nS (L:=noL) (J:=noL) (ka:=[.dat 50]) (kr:=[.one (.own 0 50 false)]) (by kernel_rfl) (by simp) (fun _=>rfl) fun a ha=>Eq.mpr (zBa a.1 _) (qC ha)) (pK _ _ _ _ rfl) fun _=>Nat.zero_le _)
theorem zBc(xs:List Sl)(r:List Sl×Unit):(xM qC1 noL noL 181 [.dat 85] [.one (.own 0 85 false)] (xs,())).G r=(mH 24 xs).G r:=by kernel_rfl
def qOK:TB:=fzR (qHf [.dat 85] [.one (.own 0 85 false)] (fun a=>aX (List.length a.1) 24) (fun a=>(a.1,())) rfl)
theorem zBd:aM 181 qOK:=oF (Spec.nZ (yI nS (L:=noL) (J:=noL) (ka:=[.dat 85]) (kr:=[.one (.own 0 85 false)]) (by kernel_rfl) (by simp) (fun _=>rfl) fun a ha=>Eq.mpr (zBc a.1 _) (qC ha)) (pK _ _ _ _ rfl) fun _=>Nat.zero_le _)
theorem zBe(xs:List Pn)(r:List Pn×Unit):(xM qC1 noL noL 182 [.dat 59] [.one (.own 0 59 false)] (xs,())).G r=(mH 48 xs).G r:=by kernel_rfl
def qOL:TB:=fzR (qHf [.dat 59] [.one (.own 0 59 false)] (fun a=>aX (List.length a.1) 48) (fun a=>(a.1,())) rfl)
theorem zBf:aM 182 qOL:=oF (Spec.nZ (yI nS (L:=noL) (J:=noL) (ka:=[.dat 59]) (kr:=[.one (.own 0 59 false)]) (by kernel_rfl) (by simp) (fun _=>rfl) fun a ha=>Eq.mpr (zBe a.1 _) (qC ha)) (pK _ _ _ _ rfl) fun _=>Nat.zero_le _)
theorem zBg(xs:List Ap)(r:List Ap×Unit):(xM qC1 noL noL 183 [.dat 47] [.one (.own 0 47 false)] (xs,())).G r=(mH 200 xs).G r:=by kernel_rfl
def qOM:TB:=fzR (qHf [.dat 47] [.one (.own 0 47 false)] (fun a=>aX (List.length a.1) 200) (fun a=>(a.1,())) rfl)
theorem zBh:aM 183 qOM:=oF (Spec.nZ (yI nS (L:=noL) (J:=noL) (ka:=[.dat 47]) (kr:=[.one (.own 0 47 false)]) (by kernel_rfl) (by simp) (fun _=>rfl) fun a ha=>Eq.mpr (zBg a.1 _) (qC ha)) (pK _ _ _ _ rfl) fun _=>Nat.zero_le _)
theorem zBi(xs:List Qu)(r:List Qu×Unit):(xM qC1 noL noL 177 [.dat 114] [.one (.own 0 114 false)] (xs,())).G r=(mH 48 xs).G r:=by kernel_rfl
def qON:TB:=fzR (qHf [.dat 114] [.one (.own 0 114 false)] (fun a=>aX (List.length a.1) 48) (fun a=>(a.1,())) rfl)
theorem zBj:aM 177 qON:=oF (Spec.nZ (yI nS (L:=noL) (J:=noL) (ka:=[.dat 114]) (kr:=[.one (.own 0 114 false)]) (by kernel_rfl) (by simp) (fun _=>rfl) fun a ha=>Eq.mpr (zBi a.1 _) (qC ha)) (pK _ _ _ _ rfl) fun _=>Nat.zero_le _)
theorem zBk(xs:List Ak)(r:List Ak×Unit):(xM qC1 noL noL 241 [.dat 95] [.one (.own 0 95 false)] (xs,())).G r=(mH 64 xs).G r:=by kernel_rfl
def qOO:TB:=fzR (qHf [.dat 95] [.one (.own 0 95 false)] (fun a=>aX (List.length a.1) 64) (fun a=>(a.1,())) rfl)
theorem zBl:aM 241 qOO:=oF (Spec.nZ (yI nS (L:=noL) (J:=noL) (ka:=[.dat 95]) (kr:=[.one (.own 0 95 false)]) (by kernel_rfl) (by simp) (fun _=>rfl) fun a ha=>Eq.mpr (zBk a.1 _) (qC ha)) (pK _ _ _ _ rfl) fun _=>Nat.zero_le _)
theorem zBm(xs:List Cp)(r:List Cp×Unit):(mF qC1 noL noL 178 [.dat 111] [.dat 111] (xs,())).G r=(qMc 16 xs).G r:=by kernel_rfl
def qOP:TB:=fzR (con [.dat 111] [.dat 111] (fun a=>aX (List.length a.1) 16) (fun a=>(a.1,())) rfl)
theorem zBn:aM 178 qOP:=oF (Spec.nZ (qQA nS (L:=noL) (J:=noL) (ka:=[.dat 111]) (kr:=[.dat 111]) (by kernel_rfl) rfl fun a ha=>Eq.mpr (zBm a.1 _) (zFH ha)) (qEZ _ _ _ _ rfl) fun _=>Nat.zero_le _)
theorem qWA(xs:List B)(r:List B×Unit):(xM qC1 noL noL 176 [.dat 9] [.one (.own 0 9 false)] (xs,())).G r=(mH 16 xs).G r:=by kernel_rfl
def qMd:TB:=fzR (qHf [.dat 9] [.one (.own 0 9 false)] (fun a=>aX (List.length a.1) 16) (fun a=>(a.1,())) rfl)
theorem qWB:aM 176 qMd:=oF (Spec.nZ (yI nS (L:=noL) (J:=noL) (ka:=[.dat 9]) (kr:=[.one (.own 0 9 false)]) (by kernel_rfl) (by simp) (fun _=>rfl) fun a ha=>Eq.mpr (qWA a.1 _) (qC ha)) (pK _ _ _ _ rfl) fun _=>Nat.zero_le _)
theorem qWC(xs:List Int)(r:List Int×Unit):(xM qC1 noL noL 194 [.dat 3] [.one (.own 0 3 false)] (xs,())).G r=(mH 8 xs).G r:=by kernel_rfl
def qMe:TB:=fzR (qHf [.dat 3] [.one (.own 0 3 false)] (fun a=>aX (List.length a.1) 8) (fun a=>(a.1,())) rfl)
theorem qWD:aM 194 qMe:=oF (Spec.nZ (yI nS (L:=noL) (J:=noL) (ka:=[.dat 3]) (kr:=[.one (.own 0 3 false)]) (by kernel_rfl) (by simp) (fun _=>rfl) fun a ha=>Eq.mpr (qWC a.1 _) (qC ha)) (pK _ _ _ _ rfl) fun _=>Nat.zero_le _)
abbrev stA:Ans:=.st [.dat 9,.dat 114,.own 0 57 false,.own 1 47 false,.own 2 50 false,.own 3 85 false,.own 4 59 false,.int .i64,.int .i64,.int .i64]
abbrev StT:=List B×List Qu×List Nd×List Ap×List Ct×List Sl×List Pn×Int×Int×Int×Unit
abbrev stD:StT:=([],[],[],[],[],[],[],0,0,0,())
def zM7(id:Nat)(_st:St aC.T):Option (List Ld):=match id with
 | 2=>some ([.slot 8 (.int .i64)])
 | _=>none
def zM8(id:Nat)(st:St aC.T):Option (List Ld):=match id with
 | 24=>some (bK st 2 [.rcd 53])
 | _=>none
def zM9(id:Nat)(_st:St aC.T):Option (List Ld):=match id with
 | 4=>some ([.slot 17 (.int .i64)])
 | _=>none
def zMA(id:Nat)(_st:St aC.T):Option (List Ld):=match id with
 | 4=>some ([.slot 17 (.int .i64)])
 | _=>none
def zMB:List (Nat×Option (List Kd)):=[(113,some [.int .i64]),(114,none),(55,none),(130,none),(38,some [.bool]),(100,some [.bool])]
def zMC:FuncId→List VK→Option (Option (List Kd)):=zFG zMB []
def LWs:List (Nat×(Nat→St aC.T→Option (List Ld))):=[(113,zM7),(38,zM9),(100,zMA)]
def JWs:List (Nat×(Nat→St aC.T→Option (List Ld))):=[(55,zM8)]
def LWf(f:FuncId)(id:Nat)(st:St aC.T):Option (List Ld):=match dH LWs f with | some L=>L id st | none=>none
def JWf(f:FuncId)(id:Nat)(st:St aC.T):Option (List Ld):=match dH JWs f with | some L=>L id st | none=>none
def exI(C:Con aC.T)(cj:FuncId→Option CJK):Nat→ExR aC.T:=exN (hdT aC Tryz.prog C (fun _=>false) 1000 5) cj zMC LWf JWf 8
theorem kR{C:Con aC.T}{cj:FuncId→Option CJK}(h:qFR C cj):qM5 (exI C cj):=qW9 (bW mixed hno h.1 _ _ _) (qQD h)
def IT0:T3:=[(179,qOI,none),(180,qOJ,none),(181,qOK,none),(182,qOL,none),(183,qOM,none),(177,qON,none),(241,qOO,none),(178,qOP,none),(176,qMd,none),(194,qMe,none),(258,qD8,none),(263,qD8,none),(116,qD8,none),(118,qD8,none),(120,qD8,none),(122,qD8,none),(123,qD8,none),(124,qD8,none),(126,qD8,none),(127,qD8,none),(128,qD8,none),(129,qD8,none),(115,qD8,none),(117,qD8,none),(125,qD8,none)]
theorem zKp:qLZ IT0:=bD zAZ mG (bD zBb mG (bD zBd mG (bD zBf mG (bD zBh mG (bD zBj mG (bD zBl mG (bD zBn mG (bD qWB mG (bD qWD mG (bD qE3 mG (bD qE3 mG (bD qE3 mG (bD qE3 mG (bD qE3 mG (bD qE3 mG (bD qE3 mG (bD qE3 mG (bD qE3 mG (bD qE3 mG (bD qE3 mG (bD qE3 mG (bD qE3 mG (bD qE3 mG (bD qE3 mG (qE2)))))))))))))))))))))))))
def IU0:Con aC.T:=qM6 IT0 (fun _=>none)
def IJ0:FuncId→Option CJK:=cj3 IT0 (fun _=>none)
theorem wI:qFR IU0 IJ0:=qAY zKp qMa
def qUd(id:Nat)(_st:St aC.T):Option (List Ld):=match id with
 | 4=>some ([.slot 13 (.int .i64)])
 | _=>none
def qQE:Ka [.dat 9,.dat 9]→Option (Ka [.bool]):=hide fun a=>(mF (exI IU0 IJ0) qUd noL 99 [.dat 9,.dat 9] [.bool] a).val
def qC2(a:List B)(b:List B):Bool:=(qQE (a,b,())).isSome
def qFT(a:List B)(b:List B):Bool×Unit:=(qQE (a,b,())).getD ((false,()):Bool×Unit)
def qYJ:TB:=fM aC [.dat 9,.dat 9] [.bool] (fun a=>qC2 a.1 a.2.1) (fun a=>qFT a.1 a.2.1)
theorem zHP:aM 99 qYJ:=rM (kR wI) (L:=qUd) (J:=noL) (ka:=[.dat 9,.dat 9]) (kr:=[.bool]) (by kernel_rfl) rfl rfl ((false,()):Bool×Unit) (u:=qQE) rfl fun _=>rfl
def qUe(id:Nat)(_st:St aC.T):Option (List Ld):=match id with
 | 4=>some ([.slot 13 (.int .i64)])
 | _=>none
def qQF:Ka [.dat 3,.dat 3]→Option (Ka [.bool]):=hide fun a=>(mF (exI IU0 IJ0) qUe noL 104 [.dat 3,.dat 3] [.bool] a).val
def tF(a:List Int)(b:List Int):Bool:=(qQF (a,b,())).isSome
def xN(a:List Int)(b:List Int):Bool×Unit:=(qQF (a,b,())).getD ((false,()):Bool×Unit)
def qYK:TB:=fM aC [.dat 3,.dat 3] [.bool] (fun a=>tF a.1 a.2.1) (fun a=>xN a.1 a.2.1)
theorem zHQ:aM 104 qYK:=rM (kR wI) (L:=qUe) (J:=noL) (ka:=[.dat 3,.dat 3]) (kr:=[.bool]) (by kernel_rfl) rfl rfl ((false,()):Bool×Unit) (u:=qQF) rfl fun _=>rfl
def qYL(id:Nat)(_st:St aC.T):Option (List Ld):=match id with
 | 4=>some ([.slot 13 (.int .i64)])
 | _=>none
def qWE:Ka [.dat 57,.dat 57]→Option (Ka [.bool]):=hide fun a=>(mF (exI IU0 IJ0) qYL noL 37 [.dat 57,.dat 57] [.bool] a).val
def qFU(a:List Nd)(b:List Nd):Bool:=(qWE (a,b,())).isSome
def qMf(a:List Nd)(b:List Nd):Bool×Unit:=(qWE (a,b,())).getD ((false,()):Bool×Unit)
def zFI:TB:=fM aC [.dat 57,.dat 57] [.bool] (fun a=>qFU a.1 a.2.1) (fun a=>qMf a.1 a.2.1)
theorem zKq:aM 37 zFI:=rM (kR wI) (L:=qYL) (J:=noL) (ka:=[.dat 57,.dat 57]) (kr:=[.bool]) (by kernel_rfl) rfl rfl ((false,()):Bool×Unit) (u:=qWE) rfl fun _=>rfl
def qYM(id:Nat)(_st:St aC.T):Option (List Ld):=match id with
 | 4=>some ([.slot 13 (.int .i64)])
 | _=>none
def qWF:Ka [.dat 50,.dat 50]→Option (Ka [.bool]):=hide fun a=>(mF (exI IU0 IJ0) qYM noL 40 [.dat 50,.dat 50] [.bool] a).val
def qFV(a:List Ct)(b:List Ct):Bool:=(qWF (a,b,())).isSome
def qMg(a:List Ct)(b:List Ct):Bool×Unit:=(qWF (a,b,())).getD ((false,()):Bool×Unit)
def zFJ:TB:=fM aC [.dat 50,.dat 50] [.bool] (fun a=>qFV a.1 a.2.1) (fun a=>qMg a.1 a.2.1)
theorem zKr:aM 40 zFJ:=rM (kR wI) (L:=qYM) (J:=noL) (ka:=[.dat 50,.dat 50]) (kr:=[.bool]) (by kernel_rfl) rfl rfl ((false,()):Bool×Unit) (u:=qWF) rfl fun _=>rfl
def qYN(id:Nat)(_st:St aC.T):Option (List Ld):=match id with
 | 4=>some ([.slot 13 (.int .i64)])
 | _=>none
def qWG:Ka [.dat 85,.dat 85]→Option (Ka [.bool]):=hide fun a=>(mF (exI IU0 IJ0) qYN noL 41 [.dat 85,.dat 85] [.bool] a).val
def qFW(a:List Sl)(b:List Sl):Bool:=(qWG (a,b,())).isSome
def qMh(a:List Sl)(b:List Sl):Bool×Unit:=(qWG (a,b,())).getD ((false,()):Bool×Unit)
def zFK:TB:=fM aC [.dat 85,.dat 85] [.bool] (fun a=>qFW a.1 a.2.1) (fun a=>qMh a.1 a.2.1)
theorem zKs:aM 41 zFK:=rM (kR wI) (L:=qYN) (J:=noL) (ka:=[.dat 85,.dat 85]) (kr:=[.bool]) (by kernel_rfl) rfl rfl ((false,()):Bool×Unit) (u:=qWG) rfl fun _=>rfl
def qYO(id:Nat)(_st:St aC.T):Option (List Ld):=match id with
 | 4=>some ([.slot 13 (.int .i64)])
 | _=>none
def qWH:Ka [.dat 59,.dat 59]→Option (Ka [.bool]):=hide fun a=>(mF (exI IU0 IJ0) qYO noL 42 [.dat 59,.dat 59] [.bool] a).val
def qFX(a:List Pn)(b:List Pn):Bool:=(qWH (a,b,())).isSome
def qMi(a:List Pn)(b:List Pn):Bool×Unit:=(qWH (a,b,())).getD ((false,()):Bool×Unit)
def zFL:TB:=fM aC [.dat 59,.dat 59] [.bool] (fun a=>qFX a.1 a.2.1) (fun a=>qMi a.1 a.2.1)
theorem zKt:aM 42 zFL:=rM (kR wI) (L:=qYO) (J:=noL) (ka:=[.dat 59,.dat 59]) (kr:=[.bool]) (by kernel_rfl) rfl rfl ((false,()):Bool×Unit) (u:=qWH) rfl fun _=>rfl
def qYP(id:Nat)(_st:St aC.T):Option (List Ld):=match id with
 | 4=>some ([.slot 13 (.int .i64)])
 | _=>none
def qWI:Ka [.dat 95,.dat 95]→Option (Ka [.bool]):=hide fun a=>(mF (exI IU0 IJ0) qYP noL 103 [.dat 95,.dat 95] [.bool] a).val
def qFY(a:List Ak)(b:List Ak):Bool:=(qWI (a,b,())).isSome
def qMj(a:List Ak)(b:List Ak):Bool×Unit:=(qWI (a,b,())).getD ((false,()):Bool×Unit)
def zFM:TB:=fM aC [.dat 95,.dat 95] [.bool] (fun a=>qFY a.1 a.2.1) (fun a=>qMj a.1 a.2.1)
theorem zKu:aM 103 zFM:=rM (kR wI) (L:=qYP) (J:=noL) (ka:=[.dat 95,.dat 95]) (kr:=[.bool]) (by kernel_rfl) rfl rfl ((false,()):Bool×Unit) (u:=qWI) rfl fun _=>rfl
def qYQ(id:Nat)(_st:St aC.T):Option (List Ld):=match id with
 | 4=>some ([.slot 13 (.int .i64)])
 | _=>none
def qWJ:Ka [.dat 111,.dat 111]→Option (Ka [.bool]):=hide fun a=>(mF (exI IU0 IJ0) qYQ noL 102 [.dat 111,.dat 111] [.bool] a).val
def qFZ(a:List Cp)(b:List Cp):Bool:=(qWJ (a,b,())).isSome
def qMk(a:List Cp)(b:List Cp):Bool×Unit:=(qWJ (a,b,())).getD ((false,()):Bool×Unit)
def zFN:TB:=fM aC [.dat 111,.dat 111] [.bool] (fun a=>qFZ a.1 a.2.1) (fun a=>qMk a.1 a.2.1)
theorem zKv:aM 102 zFN:=rM (kR wI) (L:=qYQ) (J:=noL) (ka:=[.dat 111,.dat 111]) (kr:=[.bool]) (by kernel_rfl) rfl rfl ((false,()):Bool×Unit) (u:=qWJ) rfl fun _=>rfl
def qQG:Ka [.dat 3]→Option (Ka [.dat 3]):=hide fun a=>(mF (exI IU0 IJ0) noL noL 242 [.dat 3] [.dat 3] a).val
def tH(l:List Int):Bool:=(qQG (l,())).isSome
def xO(l:List Int):(List Int)×Unit:=(qQG (l,())).getD (([],()):(List Int)×Unit)
def qYR:TB:=fzR (con [.dat 3] [.dat 3] (fun a=>tH a.1) (fun a=>xO a.1) rfl)
theorem zHR:aM 242 qYR:=qYI (kR wI) (L:=noL) (J:=noL) (ka:=[.dat 3]) (kr:=[.dat 3]) (by kernel_rfl) rfl rfl (([],()):(List Int)×Unit) (u:=qQG) rfl
def qWK:Ka [.dat 95]→Option (Ka [.dat 95]):=hide fun a=>(mF (exI IU0 IJ0) noL noL 261 [.dat 95] [.dat 95] a).val
def qYS(l:List Ak):Bool:=(qWK (l,())).isSome
def zFO(l:List Ak):(List Ak)×Unit:=(qWK (l,())).getD (([],()):(List Ak)×Unit)
def zFP:TB:=fzR (con [.dat 95] [.dat 95] (fun a=>qYS a.1) (fun a=>zFO a.1) rfl)
theorem zKw:aM 261 zFP:=qYI (kR wI) (L:=noL) (J:=noL) (ka:=[.dat 95]) (kr:=[.dat 95]) (by kernel_rfl) rfl rfl (([],()):(List Ak)×Unit) (u:=qWK) rfl
def IT1:T3:=[(99,qYJ,some (jB aC [.dat 9,.dat 9] [.bool] (fun a=>qC2 a.1 a.2.1) (fun a=>qFT a.1 a.2.1))),(104,qYK,some (jB aC [.dat 3,.dat 3] [.bool] (fun a=>tF a.1 a.2.1) (fun a=>xN a.1 a.2.1))),(37,zFI,some (jB aC [.dat 57,.dat 57] [.bool] (fun a=>qFU a.1 a.2.1) (fun a=>qMf a.1 a.2.1))),(40,zFJ,some (jB aC [.dat 50,.dat 50] [.bool] (fun a=>qFV a.1 a.2.1) (fun a=>qMg a.1 a.2.1))),(41,zFK,some (jB aC [.dat 85,.dat 85] [.bool] (fun a=>qFW a.1 a.2.1) (fun a=>qMh a.1 a.2.1))),(42,zFL,some (jB aC [.dat 59,.dat 59] [.bool] (fun a=>qFX a.1 a.2.1) (fun a=>qMi a.1 a.2.1))),(103,zFM,some (jB aC [.dat 95,.dat 95] [.bool] (fun a=>qFY a.1 a.2.1) (fun a=>qMj a.1 a.2.1))),(102,zFN,some (jB aC [.dat 111,.dat 111] [.bool] (fun a=>qFZ a.1 a.2.1) (fun a=>qMk a.1 a.2.1))),(242,qYR,some (jX [.dat 3] [.dat 3] (fun a=>tH a.1) (fun a=>xO a.1))),(261,zFP,some (jX [.dat 95] [.dat 95] (fun a=>qYS a.1) (fun a=>zFO a.1)))]
theorem zKx:qLZ IT1:=bD zHP (qD7 wH) (bD zHQ (qD7 wH) (bD zKq (qD7 wH) (bD zKr (qD7 wH) (bD zKs (qD7 wH) (bD zKt (qD7 wH) (bD zKu (qD7 wH) (bD zKv (qD7 wH) (bD zHR (qD7 (qW8 rfl)) (bD zKw (qD7 (qW8 rfl)) (qE2))))))))))
def IU1:Con aC.T:=qM6 IT1 IU0
def IJ1:FuncId→Option CJK:=cj3 IT1 IJ0
theorem qQH:qFR IU1 IJ1:=qAY zKx wI
def qQI:Ka [.rcd 47,.rcd 47]→Option (Ka [.bool]):=hide fun a=>(mF (exI IU1 IJ1) noL noL 39 [.rcd 47,.rcd 47] [.bool] a).val
def qAf(a:Ap)(b:Ap):Bool:=(qQI (a,b,())).isSome
def qDx(a:Ap)(b:Ap):Bool×Unit:=(qQI (a,b,())).getD ((false,()):Bool×Unit)
def qYT:TB:=fM aC [.rcd 47,.rcd 47] [.bool] (fun a=>qAf a.1 a.2.1) (fun a=>qDx a.1 a.2.1)
theorem zHS:aM 39 qYT:=rM (kR qQH) (L:=noL) (J:=noL) (ka:=[.rcd 47,.rcd 47]) (kr:=[.bool]) (by kernel_rfl) rfl rfl ((false,()):Bool×Unit) (u:=qQI) rfl fun _=>rfl
def qQJ:Ka [.rcd 114,.rcd 114]→Option (Ka [.bool]):=hide fun a=>(mF (exI IU1 IJ1) noL noL 101 [.rcd 114,.rcd 114] [.bool] a).val
def qAg(a:Qu)(b:Qu):Bool:=(qQJ (a,b,())).isSome
def qDy(a:Qu)(b:Qu):Bool×Unit:=(qQJ (a,b,())).getD ((false,()):Bool×Unit)
def qYU:TB:=fM aC [.rcd 114,.rcd 114] [.bool] (fun a=>qAg a.1 a.2.1) (fun a=>qDy a.1 a.2.1)
theorem zHT:aM 101 qYU:=rM (kR qQH) (L:=noL) (J:=noL) (ka:=[.rcd 114,.rcd 114]) (kr:=[.bool]) (by kernel_rfl) rfl rfl ((false,()):Bool×Unit) (u:=qQJ) rfl fun _=>rfl
def qWL:Ka [.rcd 47]→Option (Ka [.rcd 47]):=hide fun a=>(mF (exI IU1 IJ1) noL noL 166 [.rcd 47] [.rcd 47] a).val
def qGa(a:Ap):Bool:=(qWL (a,())).isSome
def qMl(a:Ap):Ap×Unit:=(qWL (a,())).getD ((dAp,()):Ap×Unit)
def zFQ:TB:=fzR (con [.rcd 47] [.rcd 47] (fun a=>qGa a.1) (fun a=>qMl a.1) rfl)
theorem zKy:aM 166 zFQ:=qYI (kR qQH) (L:=noL) (J:=noL) (ka:=[.rcd 47]) (kr:=[.rcd 47]) (by kernel_rfl) rfl rfl ((dAp,()):Ap×Unit) (u:=qWL) rfl
def IT2:T3:=[(39,qYT,some (jB aC [.rcd 47,.rcd 47] [.bool] (fun a=>qAf a.1 a.2.1) (fun a=>qDx a.1 a.2.1))),(101,qYU,some (jB aC [.rcd 114,.rcd 114] [.bool] (fun a=>qAg a.1 a.2.1) (fun a=>qDy a.1 a.2.1))),(166,zFQ,some (jX [.rcd 47] [.rcd 47] (fun a=>qGa a.1) (fun a=>qMl a.1)))]
theorem zKz:qLZ IT2:=bD zHS (qD7 wH) (bD zHT (qD7 wH) (bD zKy (qD7 (qW8 rfl)) (qE2)))
def IU2:Con aC.T:=qM6 IT2 IU1
def IJ2:FuncId→Option CJK:=cj3 IT2 IJ1
theorem qWM:qFR IU2 IJ2:=qAY zKz qQH
def qQK:Ka [.rcd 32,.rcd 32]→Option (Ka [.bool]):=hide fun a=>(mF (exI IU2 IJ2) noL noL 36 [.rcd 32,.rcd 32] [.bool] a).val
def qC3(a:Cf)(b:Cf):Bool:=(qQK (a,b,())).isSome
def qGb(a:Cf)(b:Cf):Bool×Unit:=(qQK (a,b,())).getD ((false,()):Bool×Unit)
def qYV:TB:=fM aC [.rcd 32,.rcd 32] [.bool] (fun a=>qC3 a.1 a.2.1) (fun a=>qGb a.1 a.2.1)
theorem zHU:aM 36 qYV:=rM (kR qWM) (L:=noL) (J:=noL) (ka:=[.rcd 32,.rcd 32]) (kr:=[.bool]) (by kernel_rfl) rfl rfl ((false,()):Bool×Unit) (u:=qQK) rfl fun _=>rfl
def qYW(id:Nat)(st:St aC.T):Option (List Ld):=match id with
 | 3=>some ([.slot 23 (.int .i64)]++qR7 st 21 114)
 | 10=>some ([.slot 61 (.int .i64)]++qR7 st 59 47)
 | _=>none
def qWN:Ka [.rcd 39]→Option (Ko [stA]):=hide fun a=>(xM (exI IU2 IJ2) qYW noL 112 [.rcd 39] [stA] a).val
def qDz(s:Se):Bool:=(qWN (s,())).isSome
def qHg(s:Se):StT×Unit:=(qWN (s,())).getD ((stD,()):StT×Unit)
def zFR:TB:=fzR (qHf [.rcd 39] [stA] (fun a=>qDz a.1) (fun a=>qHg a.1) rfl)
theorem zK0:aM 112 zFR:=zII (kR qWM) (L:=qYW) (J:=noL) (ka:=[.rcd 39]) (kr:=[stA]) (by kernel_rfl) rfl (by simp) (fun _=>by kernel_rfl) ((stD,()):StT×Unit) (u:=qWN) rfl
def IT3:T3:=[(36,qYV,some (jB aC [.rcd 32,.rcd 32] [.bool] (fun a=>qC3 a.1 a.2.1) (fun a=>qGb a.1 a.2.1))),(112,zFR,some (jO [.rcd 39] [stA] (fun a=>qDz a.1) (fun a=>qHg a.1)))]
theorem zK1:qLZ IT3:=bD zHU (qD7 wH) (bD zK0 (qD7 (zFE rfl)) (qE2))
def IU3:Con aC.T:=qM6 IT3 IU2
def IJ3:FuncId→Option CJK:=cj3 IT3 IJ2
theorem zFS:qFR IU3 IJ3:=qAY zK1 qWM
def qUf(id:Nat)(st:St aC.T):Option (List Ld):=match id with
 | 3=>some ([.slot 16 (.int .i64)]++zM6 st 2 hS)
 | _=>none
def qUg(id:Nat)(st:St aC.T):Option (List Ld):=match id with
 | 18=>some (bK st 10 [.rcd 47])
 | _=>none
def qQL:Ka [.rcd 39,.dat 3]→Option (Ko [stA]):=hide fun a=>(xM (exI IU3 IJ3) qUf qUg 54 [.rcd 39,.dat 3] [stA] a).val
def tJ(s:Se)(ids:List Int):Bool:=(qQL (s,ids,())).isSome
def xP(s:Se)(ids:List Int):StT×Unit:=(qQL (s,ids,())).getD ((stD,()):StT×Unit)
def qYX:TB:=fzR (qHf [.rcd 39,.dat 3] [stA] (fun a=>tJ a.1 a.2.1) (fun a=>xP a.1 a.2.1) rfl)
theorem zHV:aM 54 qYX:=zII (kR zFS) (L:=qUf) (J:=qUg) (ka:=[.rcd 39,.dat 3]) (kr:=[stA]) (by kernel_rfl) rfl (by simp) (fun _=>by kernel_rfl) ((stD,()):StT×Unit) (u:=qQL) rfl
def IT4:T3:=[(54,qYX,some (jO [.rcd 39,.dat 3] [stA] (fun a=>tJ a.1 a.2.1) (fun a=>xP a.1 a.2.1)))]
theorem zK2:qLZ IT4:=bD zHV (qD7 (zFE rfl)) (qE2)
def IU4:Con aC.T:=qM6 IT4 IU3
def IJ4:FuncId→Option CJK:=cj3 IT4 IJ3
theorem zFT:qFR IU4 IJ4:=qAY zK2 zFS
def qQM:Ka [.rcd 39,.rcd 61]→Option (Ka [.rcd 39,.rcd 53]):=hide fun a=>(mF (exI IU4 IJ4) noL noL 15 [.rcd 39,.rcd 61] [.rcd 39,.rcd 53] a).val
def mI(s:Se)(x:Ip):Bool:=(qQM (s,x,())).isSome
def dU(s:Se)(x:Ip):Se×Ou×Unit:=(qQM (s,x,())).getD ((dSe,dOu,()):Se×Ou×Unit)
def qQN:TB:=fzR (con [.rcd 39,.rcd 61] [.rcd 39,.rcd 53] (fun a=>mI a.1 a.2.1) (fun a=>dU a.1 a.2.1) rfl)
theorem qYY:aM 15 qQN:=qYI (kR zFT) (L:=noL) (J:=noL) (ka:=[.rcd 39,.rcd 61]) (kr:=[.rcd 39,.rcd 53]) (by kernel_rfl) rfl rfl ((dSe,dOu,()):Se×Ou×Unit) (u:=qQM) rfl
def qQO:Ka [.rcd 39,.rcd 39]→Option (Ka [.bool]):=hide fun a=>(mF (exI IU4 IJ4) noL noL 10 [.rcd 39,.rcd 39] [.bool] a).val
def tK(s:Se)(t:Se):Bool:=(qQO (s,t,())).isSome
def uK(s:Se)(t:Se):Bool×Unit:=(qQO (s,t,())).getD ((false,()):Bool×Unit)
def qQP:TB:=fM aC [.rcd 39,.rcd 39] [.bool] (fun a=>tK a.1 a.2.1) (fun a=>uK a.1 a.2.1)
theorem qYZ:aM 10 qQP:=rM (kR zFT) (L:=noL) (J:=noL) (ka:=[.rcd 39,.rcd 39]) (kr:=[.bool]) (by kernel_rfl) rfl rfl ((false,()):Bool×Unit) (u:=qQO) rfl fun _=>rfl
end Go.Proofs.YtehpnjmgjmkjaaaGreatDoor
