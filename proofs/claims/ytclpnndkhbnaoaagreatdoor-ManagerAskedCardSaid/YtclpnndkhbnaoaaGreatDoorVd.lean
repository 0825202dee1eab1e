/- Part of the proof: texts Vd. No conditions. -/
import Derived.Test.YtclpnndkhbnaoaaGreatDoorVc
import Derived.ProofKit
import Derived.HandedShaped
set_option linter.all false
namespace Go.W
open Go Go.RowKit
section
variable (reg:Reg)
def qAu(k:Nat)(xs:List (List (V reg.T))):List Nat→Option (D reg.T)
 | []=>none
 | e::l=>(match Nat.beq (reg.k e) k&&Nat.blt 0 xs.length,mK reg e xs with
  | true,some zs=>some (.sl e zs)
  | _,_=>qAu k xs l)
def O.toD:O reg.T→Option (D reg.T)
 | .trows e xs=>some (.sl e xs)
 | .rows k xs=>(match qQ xs with
  | some ys=>(match qAu reg k xs reg.hint with | some d=>some d | none=>some (.usl k ys))
  | none=>none)
 | .map _ _=>none
 | .sit _ _=>none
 | .mit _ _ _ _=>none
def V.frz(i:Nat)(d:D reg.T):V reg.T→V reg.T
 | .sl j off len cap=>(match Nat.beq j i with | true=>.d (d.sub reg off (off+len)) | false=>.sl j off len cap)
 | .fn f vs us=>.fn f (goL i d vs) (goL i d us)
 | .ifc t v=>.ifc t (V.frz i d v)
 | .agg vs=>.agg (goL i d vs)
 | .tup vs=>.tup (goL i d vs)
 | v=>v
where goL (i:Nat) (d:D reg.T):List (V reg.T)→List (V reg.T)
 | []=>[]
 | v::vs=>V.frz i d v::goL i d vs
def V.gW{T:Nat→Type}(i n:Nat):V T→Bool
 | .sl j off len _=>(match Nat.beq j i with | true=>Nat.ble (off+len) n | false=>true)
 | .fn _ vs us=>okL i n vs&&okL i n us
 | .ifc _ v=>V.gW i n v
 | .agg vs=>okL i n vs
 | .tup vs=>okL i n vs
 | _=>true
where okL {T:Nat→Type} (i n:Nat):List (V T)→Bool
 | []=>true
 | v::vs=>V.gW i n v&&okL i n vs
def sV(i:Nat)(d:D reg.T)(n:Nat):List Nat→Hp reg.T→Out (Hp reg.T)
 | [],h=>.ret h
 | j::l,h=>(match h.get j with
  | some (.rows k xs)=>(match xs.any fun r=>fI (V.names.goL r []) i with
   | true=>.need (xs.all fun r=>V.gW.okL i n r) (sV i d n l (h.set j (some (.rows k (xs.map (V.frz.goL reg i d))))))
   | false=>sV i d n l h)
  | _=>sV i d n l h)
def qOi{T:Nat→Type}(h0 h:Hp T):List Nat:=(h.wr.take (h.wr.length-h0.wr.length)++List.range' h0.nx (h.nx-h0.nx)).foldl addN []
def qOM(l:List Nat)(i:Nat)(r:V reg.T×Hp reg.T):Out (V reg.T×Hp reg.T) :=
 match r.2.get i with
 | some ob=>(match ob.toD reg with
  | some d=>.need (V.gW i (ob.len reg) r.1) ((sV reg i d (ob.len reg) l (r.2.set i none)).bind fun h=>.ret (V.frz reg i d r.1,h))
  | none=>.ret r)
 | none=>.ret r
def rE(l:List Nat):List Nat→V reg.T×Hp reg.T→Out (V reg.T×Hp reg.T)
 | [],r=>.ret r
 | i::is,r=>(qOM reg l i r).bind (rE l is)
def ptrs{T:Nat→Type}:V T→List Nat→List Nat
 | .ptr i _ _,l=>addN l i
 | .fn _ vs us,l=>goL us (goL vs l)
 | .ifc _ v,l=>ptrs v l
 | .agg vs,l=>goL vs l
 | .tup vs,l=>goL vs l
 | _,l=>l
where goL {T:Nat→Type}:List (V T)→List Nat→List Nat
 | [],l=>l
 | v::vs,l=>goL vs (ptrs v l)
def wP{T:Nat→Type}(o:Option (O T))(l:List Nat):List Nat:=match o with
 | some o=>o.names l
 | none=>l
def qM0{T:Nat→Type}(o:Option (O T))(l:List Nat):List Nat:=match o with
 | some (.rows _ xs)=>xs.foldl (fun l r=>ptrs.goL r l) l
 | _=>l
def kL{T:Nat→Type}(keep:List Nat):List Nat→Hp T→Hp T
 | [],h=>h
 | i::l,h=>(match fI keep i with
  | true=>kL keep l h
  | false=>(match h.get i with | some _=>kL keep l (h.set i none) | none=>kL keep l h))
def fZ(h0:Hp reg.T)(r:V reg.T×Hp reg.T):Out (V reg.T×Hp reg.T) :=
 let l:=qOi h0 r.2
 let new:=List.range' h0.nx (r.2.nx-h0.nx)
 let p:=l.foldl (fun a j=>qM0 (r.2.get j) a) (ptrs r.1 [])
 (rE reg l ((new++new).filter fun i=>!fI p i) r).bind fun r =>
  let roots:=(l.filter fun i=>Nat.blt i h0.nx).foldl (fun a j=>wP (r.2.get j) a) (V.names r.1 [])
  .ret (r.1,kL (reach r.2.get 1000 0 roots) new r.2)
def qJA(b:Bool):D reg.T→D reg.T→Option (D reg.T)
 | .bool x,.bool y=>some (.bool (bif b then x else y))
 | .int k x,.int k' y=>(match sameKind k k' with | true=>some (.int k (bif b then x else y)) | false=>none)
 | .str x,.str y=>some (.str (bif b then x else y))
 | .nilp,.nilp=>some .nilp
 | .nilm,.nilm=>some .nilm
 | .nilf,.nilf=>some .nilf
 | .nili,.nili=>some .nili
 | .nils,.nils=>some .nils
 | .sl e xs,.sl _ ys=>(match qP ys e with | some zs=>some (.sl e (bif b then xs else zs)) | none=>none)
 | .nils,.sl e ys=>some (.sl e (bif b then[] else ys))
 | .sl e xs,.nils=>some (.sl e (bif b then xs else[]))
 | .usl k xs,.usl k' ys=>(match Nat.beq k k' with | true=>some (.usl k (bif b then xs else ys)) | false=>none)
 | .nils,.usl k ys=>some (.usl k (bif b then[] else ys))
 | .usl k xs,.nils=>some (.usl k (bif b then xs else[]))
 | _,_=>none
def kI(b:Bool):V reg.T→V reg.T→Option (V reg.T)
 | .d x,.d y=>(match qJA reg b x y with | some z=>some (.d z) | none=>none)
 | .ptr i r o,.ptr i' r' o'=>(match Nat.beq i i' && Nat.beq r r' && Nat.beq o o' with | true=>some (.ptr i r o) | false=>none)
 | .undef,.undef=>some .undef
 | .any,.any=>some .any
 | .agg vs,.agg us=>(match goL b vs us with | some l=>some (.agg l) | none=>none)
 | .tup vs,.tup us=>(match goL b vs us with | some l=>some (.tup l) | none=>none)
 | _,_=>none
where goL (b:Bool):List (V reg.T)→List (V reg.T)→Option (List (V reg.T))
 | [],[]=>some []
 | v::vs,u::us=>(match kI b v u,goL b vs us with | some x,some l=>some (x::l) | _,_=>none)
 | _,_=>none
def lH(b:Bool):List (List (V reg.T))→List (List (V reg.T))→Option (List (List (V reg.T)))
 | [],[]=>some []
 | r::rs,s::ss=>(match kI.goL reg b r s,lH b rs ss with | some x,some l=>some (x::l) | _,_=>none)
 | _,_=>none
def qJB(b:Bool):O reg.T→O reg.T→Option (O reg.T)
 | .rows k xs,.rows k' ys=>(match Nat.beq k k',lH reg b xs ys with | true,some zs=>some (.rows k zs) | _,_=>none)
 | .trows e xs,.trows _ ys=>(match qP ys e with | some zs=>some (.trows e (bif b then xs else zs)) | none=>none)
 | _,_=>none
def nU(b:Bool)(h h':Hp reg.T):List Nat→Tr (O reg.T)→Option (Tr (O reg.T))
 | [],t=>some t
 | i::l,t=>(match Tr.ok i,h.get i,h'.get i with
  | true,none,none=>nU b h h' l (t.set i none)
  | true,some o,some o'=>(match qJB reg b o o' with | some z=>nU b h h' l (t.set i (some z)) | none=>none)
  | _,_,_=>none)
def qAV(h0:Hp reg.T)(b:Bool)(r r':V reg.T×Hp reg.T):Option (V reg.T×Hp reg.T) :=
 let l1:=r.2.wr.take (r.2.wr.length-h0.wr.length)
 let l2:=r'.2.wr.take (r'.2.wr.length-h0.wr.length)
 let nx:=Nat.add r.2.nx (Nat.sub r'.2.nx r.2.nx)
 let l:=(l1++l2++List.range' h0.nx (nx-h0.nx)).foldl addN []
 match kI reg b r.1 r'.1,nU reg b r.2 r'.2 l h0.h with
 | some v,some t=>some (v,⟨t,nx,(l1++l2)++h0.wr⟩)
 | _,_=>none
end
inductive Fl(α:Type):Type
 | bad
 | one (p:Bool) (a:α)
 | many
def flat{α:Type}(J:Bool→α→α→Option α):Out α→Fl α
 | .ret a=>.one true a
 | .need b o=>(match flat J o with | .one p a=>.one (b&&p) a | x=>x)
 | .br b x y=>(match flat J x,flat J y with
  | .bad,.bad=>.bad
  | .bad,.one q c=>.one (!b&&q) c
  | .one p a,.bad=>.one (b&&p) a
  | .one p a,.one q c=>(match J b a c with | some l=>.one (bif b then p else q) l | none=>.many)
  | _,_=>.many)
 | .bad=>.bad
def pW{α:Type}(J:Bool→α→α→Option α)(o:Out α):Out α :=
 match flat J o with
 | .bad=>.bad
 | .one p a=>.need p (.ret a)
 | .many=>(match o with
  | .br b x y=>.br b (pW J x) (pW J y)
  | .need b o=>.need b (pW J o)
  | o=>o)
def qGP(reg:Reg)(h0:Hp reg.T)(o:Out (V reg.T×Hp reg.T)):Out (V reg.T×Hp reg.T):=pW (qAV reg h0) (o.bind (fZ reg h0))
def hdT(reg:Reg)(P:Program)(C:Con reg.T)(tid:FuncId→Bool)(fuel:Nat):Nat→Hd reg.T
 | 0=>fun f args h=>(match C f with | some S=>S args h | none=>.bad)
 | n+1=>fun f args h=>(match C f with
  | some S=>S args h
  | none=>(match tid f with | true=>qGP reg h (qGC P (hdT reg P C tid fuel n) fuel f args h) | false=>qGC P (hdT reg P C tid fuel n) fuel f args h))
section
variable {reg:Reg} {P:Program}
def gM(h0:Hp reg.T)(r r':V reg.T×Hp reg.T):Prop :=
 r.2.nx≤r'.2.nx∧∀N F φ w cv w',Res N F φ h0 w (·= r) cv w'→Res N F φ h0 w (·= r') cv w'
theorem gM.refl(h0:Hp reg.T)(r:V reg.T×Hp reg.T):gM h0 r r:=⟨dh _,fun _ _ _ _ _ _ h=>h⟩
theorem gM.trans{h0:Hp reg.T}{a b c:V reg.T×Hp reg.T}(h:gM h0 a b)(k:gM h0 b c):gM h0 a c:=⟨dm h.1 k.1,fun N F φ w cv w' x=>k.2 N F φ w cv w' (h.2 N F φ w cv w' x)⟩
theorem gM.of{h0:Hp reg.T}{r r':V reg.T×Hp reg.T}(hn:r.2.nx≤r'.2.nx)(h:∀N F φ w cv,HR N F φ r.2 w→aA reg F w φ r.1 cv→Res N F φ r.2 w (·= r') cv w):gM h0 r r':=by
 refine⟨hn,fun N F φ w cv w' hR=>?_⟩
 obtain⟨v,h',N',F',φ',hq,hv,hH,hG⟩:=hR
 subst hq
 obtain⟨v2,h2,N2,F2,φ2,hq2,hv2,hH2,hG2⟩:=h N' F' φ' w' cv hH hv
 exact⟨v2,h2,N2,F2,φ2,hq2,hv2,hH2,hG.trans hG2⟩
theorem qDu(i:Nat)(d:D reg.T):∀vs:List (V reg.T),V.frz.goL reg i d vs=vs.map (V.frz reg i d)
 | []=>rfl
 | v::vs=>by simp[V.frz.goL,qDu i d vs]
theorem qGQ{T:Nat→Type}(i n:Nat):∀vs:List (V T),V.gW.okL i n vs=vs.all (V.gW i n)
 | []=>rfl
 | v::vs=>by simp[V.gW.okL,qGQ i n vs]
theorem qI5{i:Nat}{d:D reg.T}{v:V reg.T}(h:v.aP=true):(V.frz reg i d v).aP=true:=by
 cases v<;>simp only[V.aP,iy] at h<;>simp only[V.frz]<;>(try rfl)
 rename_i j off len cap
 cases Nat.beq j i<;>rfl
theorem qAW{i:Nat}{d:D reg.T}{vs:List (V reg.T)}{j:Nat}(hj:j<vs.length):(V.frz.goL reg i d vs).getD j .any=V.frz reg i d (vs.getD j .any):=by
 rw[qDu,cO _ _ _ _ .any hj]
theorem sW{i:Nat}{d:D reg.T}{vs:List (V reg.T)}:(V.frz.goL reg i d vs).length=vs.length:=by rw[qDu,iq]
theorem qGR{T:Nat→Type}{i n:Nat}{vs:List (V T)}(h:V.gW.okL i n vs=true){j:Nat}(hj:j<vs.length):V.gW i n (vs.getD j .any)=true:=by
 rw[qGQ,ek] at h
 have e:vs.getD j .any=vs[j]:=by simp[List.getD,hj]
 rw[e]
 exact h _ (l9 hj)
theorem qGS{F F':Nat→Prop}{w:World}{φ:Phi}{i n:Nat}{d:D reg.T}(hF:∀b,F b→F' b)(hfz:∀off len cap cv,aA reg F w φ (.sl i off len cap) cv→off+len≤n→dQ reg F' w (d.sub reg off (off+len)) cv)
  {v:V reg.T} {cv:Value} (h:aA reg F w φ v cv) (hok:V.gW i n v=true):aA reg F' w φ (V.frz reg i d v) cv:=by
 have hm:∀b,F b→F' b∧w.heap[b]? = w.heap[b]?:=fun b hb=>⟨hF b hb,rfl⟩
 have lists:∀{vs:List (V reg.T)} {cs:Array Value},V.gW.okL i n vs=true→(∀j,j<vs.length→V.gW i n (vs.getD j .any)=true→aA reg F' w φ (V.frz reg i d (vs.getD j .any)) (cs.getD j undef)) →
   ∀j,j<(V.frz.goL reg i d vs).length→aA reg F' w φ ((V.frz.goL reg i d vs).getD j .any) (cs.getD j undef):=by
  intro vs cs hok ih j hj
  rw[sW] at hj
  rw[qAW hj]
  exact ih j hj (qGR hok hj)
 induction h with
 | d x v hd=>exact .d x v (hd.mono reg hm)
 | ptr i r o b s k z hp=>exact .ptr i r o b s k z hp
 | fp row o a C t fz hFa hb hz hr=>exact .fp row o a C t fz (hF _ hFa) hb hz (fun j hj=>(hr j hj).mono reg hm)
 | sl j off len cap b s k z cap' hp hc hl hm' hz =>
  simp only[V.frz,V.gW] at hok ⊢
  cases hb:Nat.beq j i with
  | true =>
   have: j=i:=cz hb
   subst this
   simp only[hb] at hok
   exact .d _ _ (hfz off len cap _ (.sl j off len cap b s k z cap' hp hc hl hm' hz) (bz hok))
  | false=>exact .sl j off len cap b s k z cap' hp hc hl hm' hz
 | slz j off cap base hc hnb =>
  simp only[V.frz,V.gW] at hok ⊢
  cases hb:Nat.beq j i with
  | true =>
   have: j=i:=cz hb
   subst this
   simp only[hb] at hok
   exact .d _ _ (hfz off 0 cap _ (.slz j off cap base hc hnb) (bz hok))
  | false=>exact .slz j off cap base hc hnb
 | mp i b s hp=>exact .mp i b s hp
 | it i b s hp=>exact .it i b s hp
 | fn f caps fst cs fs hz _ hz' _ ih ih' =>
  simp only[V.gW,bu] at hok
  simp only[V.frz]
  exact .fn f _ _ cs fs (by rw[sW];exact hz) (lists hok.1 ih) (by rw[sW];exact hz') (lists hok.2 ih')
 | agg vs cs hz _ ih=>simp only[V.gW] at hok;exact .agg _ cs (by rw[sW];exact hz) (lists hok ih)
 | tup vs cs hz _ ih=>simp only[V.gW] at hok;exact .tup _ cs (by rw[sW];exact hz) (lists hok ih)
 | ifc t v cv _ ih=>simp only[V.gW] at hok;exact .ifc t _ cv (ih hok)
 | undef=>exact .undef
 | any v=>exact .any v
theorem qBY{T:Nat→Type}:∀{xs:List (List (V T))} {ys:List (List (D T))},qQ xs=some ys→xs=ys.map fun r=>r.map .d:=by
 intro xs
 induction xs with
 | nil=>intro ys h;simp only[qQ,cu] at h;subst h;rfl
 | cons x xs ih =>
  intro ys h
  simp only[qQ] at h
  split at h
  ·rename_i a b ha hb
   cases h
   rw[jQ ha,ih hb]
   rfl
  ·cases h
theorem wQ{k:Nat}{xs:List (List (V reg.T))}{d:D reg.T}:∀{l:List Nat},qAu reg k xs l=some d→∃e zs,d=.sl e zs∧reg.k e=k∧mK reg e xs=some zs
 | [],h=>by cases h
 | e::l,h=>by
  unfold qAu at h
  split at h
  ·rename_i zs hk hz
   cases h
   simp only[bu] at hk
   exact⟨e,zs,rfl,cz hk.1,hz⟩
  ·exact wQ h
theorem qJC{o:O reg.T}{d:D reg.T}(h:o.toD reg=some d):o.bB reg=true∧d.qR=true∧d.len? reg=some (o.len reg)∧d.k reg 0=o.k reg∧∀r,r<o.len reg→bM (o.row reg r) ((d.row reg r).map .d):=by
 cases o with
 | rows k xs =>
  simp only[O.toD] at h
  split at h
  ·rename_i ys hys
   split at h
   ·rename_i d' hd'
    cases h
    obtain⟨e,zs,rfl,hk,hz⟩:=wQ hd'
    obtain⟨h1,h2⟩:=pQ hz
    exact⟨rfl,rfl,by simp only[D.len?,O.len];rw[h1],hk,fun r hr=>h2 r hr⟩
   ·cases h
    have e:=qBY hys
    refine⟨rfl,rfl,by rw[e];simp[D.len?,O.len],rfl,fun r hr=>bM.of ?_⟩
    rw[e] at hr ⊢
    simp only[O.len,iq] at hr
    simp only[O.row,D.row]
    rw[cO _ _ _ _ [] hr]
  ·cases h
 | trows e xs=>simp only[O.toD,cu] at h;subst h;exact⟨rfl,rfl,rfl,rfl,fun r _=>bM.refl _⟩
 | map c es=>simp[O.toD] at h
 | sit s p=>simp[O.toD] at h
 | mit m a b c=>simp[O.toD] at h
theorem aA.qEo{F:Nat→Prop}{w:World}{φ:Phi}{x:D reg.T}{cv:Value}(h:aA reg F w φ (.d x) cv):dQ reg F w x cv:=by cases h with | d _ _ h=>exact h
theorem qGT{F F':Nat→Prop}{w:World}{φ:Phi}{i:Nat}{o:O reg.T}{d:D reg.T}(hF:∀b,F b→F' b)(ho:eZ reg F w φ i o)(hd:o.toD reg=some d)(hb:∀b s k z,φ i=some (b,s,k,z)→F' b)
  (off len:Nat) (cap:Cap) (cv:Value) (hv:aA reg F w φ (.sl i off len cap) cv) (hle:off+len≤o.len reg):dQ reg F' w (d.sub reg off (off+len)) cv:=by
 obtain⟨_,h2,h3,h4,h5⟩:=qJC hd
 have hm:∀b,F b→F' b∧w.heap[b]? = w.heap[b]?:=fun b hb=>⟨hF b hb,rfl⟩
 have hlen:=qGE h3 (Nat.le_add_right off len) hle h2
 rw[Nat.add_sub_cancel_left] at hlen
 cases hv with
 | slz _ _ _ base hc=>exact .emp _ (qGF (k0:=0) h2).2 hlen base 0
 | sl _ _ _ _ b s k z cap' hp hc hl hm' hz =>
  obtain⟨_,ho⟩:=ho.rows reg (by cases o<;>first | rfl | simp[O.toD] at hd)
  rcases ho with⟨_,h⟩ | ⟨b',s',C,t,fz,h6,h7,h8,h9⟩
  ·rw[hp] at h;cases h
  ·rw[hp] at h6
   cases h6
   have ha:=At.le (row':=fun r=>(d.row reg r).map .d) h9.at_ fun r hr=>h5 r hr
   have hk:(d.sub reg off (off+len)).k reg 0=o.k reg:=(qGF (k0:=0) h2).1.trans h4
   refine .sl _ len ⟨b,s+off*o.k reg,none⟩ cap' C t fz (qGF (k0:=0) h2).2 hlen (hb _ _ _ _ hp) h7 rfl hl (by omega) ?_ (fun r hr=>?_) (fun r j hr hj=>?_)
   ·rw[hk]
    have h1:=h9.size
    have h2:(off+len)*o.k reg≤o.len reg*o.k reg:=df _ hle
    rw[gz] at h2
    show s+off*o.k reg+len*o.k reg≤C.size
    omega
   ·rw[hk,qAq h3 h2 r (by omega)]
    have:= ha.wid (off+r) (by omega)
    rw[iq] at this
    exact this
   ·rw[hk] at hj ⊢
    rw[qAq h3 h2 r (by omega)]
    have hw:=ha.wid (off+r) (by omega)
    have:= ha.rel (off+r) j (by omega) hj
    rw[iq] at hw
    rw[iY _ _ (by omega)] at this
    have h10:=this.qEo.mono reg hm
    rw[show s+((off+r)*o.k reg+j)=s+off*o.k reg+r*o.k reg+j by rw[gz];omega] at h10
    exact h10
theorem iX.turn{N F:Nat→Prop}{φ:Phi}{H H':Nat→Option (O reg.T)}{w:World}(hH:iX reg F φ N H w)(h:∀i o',H' i=some o'→∃o,H i=some o∧(eZ reg F w φ i o→eZ reg F w φ i o')):iX reg F φ N H' w:=by
 refine⟨fun i o' ho=>?_,fun i o' b s k ho hp=>?_,fun i j oi oj b s k s' k' hi hj=>?_,hH.dom,fun i o' ho=>?_,hH.ok,hH.frz,hH.lay⟩
 ·obtain⟨o,h1,h2⟩:=h i o' ho;exact h2 (hH.obj i o h1)
 ·obtain⟨o,h1,_⟩:=h i o' ho;exact hH.own i o b s k h1 hp
 ·obtain⟨a,h1,_⟩:=h i oi hi
  obtain⟨c,h2,_⟩:=h j oj hj
  exact hH.inj i j a c b s k s' k' h1 h2
 ·obtain⟨o,h1,_⟩:=h i o' ho;exact hH.lt i o h1
theorem Goes.turn{N F N' F':Nat→Prop}{φ φ':Phi}{H H' H'':Nat→Option (O reg.T)}{w w':World}(h:Goes reg F φ N H w F' φ' N' H' w')(hs:∀i o',H'' i=some o'→∃o,H' i=some o):Goes reg F φ N H w F' φ' N' H'' w' :=
 ⟨h.os,h.tape,h.output,h.size,h.block,h.fsub,h.fnew,h.phi,h.names,fun b ⟨i,o,s,k,ho,hp⟩=>by obtain⟨o',ho'⟩:=hs i o ho;exact h.dom b ⟨i,o',s,k,ho',hp⟩,h.new⟩
theorem qFL{i n:Nat}{d:D reg.T}:∀{l:List Nat} {h h':Hp reg.T},(sV reg i d n l h).K (·= h')→h'.nx=h.nx ∧
  ∀{N F0 F:Nat→Prop} {φ:Phi} {w:World},(∀b,F0 b→F b)→(∀v cv,aA reg F w φ v cv→V.gW i n v=true→aA reg F w φ (V.frz reg i d v) cv)→HR N F φ h w→HR N F φ h' w∧GO N F φ h w N F φ h' w:=by
 intro l
 induction l with
 | nil=>intro h h' hK;cases hK;exact⟨rfl,fun _ _ hH=>⟨hH,GO.refl hH⟩⟩
 | cons j l ih =>
  intro h h' hK
  simp only[sV] at hK
  split at hK
  ·rename_i k xs hj
   split at hK
   ·obtain⟨hok,hK⟩:=Out.aO.1 hK
    obtain⟨e,h1⟩:=ih hK
    refine⟨e,fun{N F0 F φ w} hF hfz hH=>?_⟩
    have hkj:=hH.ok j (hH.lt j _ hj)
    have hget:∀m,(h.set j (some (.rows k (xs.map (V.frz.goL reg i d))))).get m=if m=j then some (.rows k (xs.map (V.frz.goL reg i d))) else h.get m:=jT hkj
    have hH':HR N F φ (h.set j (some (.rows k (xs.map (V.frz.goL reg i d))))) w:=by
     refine hH.turn (fun m o' hm=>?_)
     rw[hget] at hm
     by_cases hmj:m=j
     ·subst hmj
      rw[if_pos rfl] at hm
      cases hm
      refine⟨_,hj,fun ho=>?_⟩
      refine .inl ⟨rfl,?_⟩
      rcases(ho.rows reg rfl).2 with⟨h2,h3⟩ | ⟨b,s,C,t,fz,h2,h3,h4,h5⟩
      ·exact .inl ⟨by simpa [O.len] using h2,h3⟩
      ·have hrow:∀r,r<xs.length→(O.rows k (xs.map (V.frz.goL reg i d))).row reg r=V.frz.goL reg i d (xs.getD r []):=fun r hr=>by
        simp only[O.row];rw[cO _ _ _ _ [] hr]
       refine .inr ⟨b,s,C,t,fz,h2,h3,h4,⟨by simpa [O.len,O.k] using h5.size,by simpa [O.len] using h5.len,⟨fun r hr=>?_,fun r c hr hc=>?_,fun r c hr hc=>?_⟩⟩⟩
       ·have hr:r<xs.length:=by simpa [O.len] using hr
        rw[hrow r hr,sW]
        exact h5.at_.wid r hr
       ·have hr:r<xs.length:=by simpa [O.len] using hr
        have hw:(xs.getD r []).length=k:=h5.at_.wid r hr
        rw[hrow r hr,qAW (by rw[hw];exact hc)]
        exact qI5 (h5.at_.aP r c hr hc)
       ·have hr:r<xs.length:=by simpa [O.len] using hr
        have hw:(xs.getD r []).length=k:=h5.at_.wid r hr
        rw[hrow r hr,qAW (by rw[hw];exact hc)]
        refine hfz _ _ (h5.at_.rel r c hr hc) (qGR ?_ (by rw[hw];exact hc))
        have e:xs.getD r []=xs[r]:=by simp[List.getD,hr]
        rw[e]
        exact ek.1 hok _ (l9 hr)
     ·rw[if_neg hmj] at hm
      exact⟨o',hm,id⟩
    obtain⟨h6,h7⟩:=h1 (F0:=F0) hF hfz hH'
    refine⟨h6,GO.trans (h':=h.set j _) ⟨(Goes.refl reg hH).turn (fun m o' hm=>?_),Grow.set hkj,fun _ hx=>.inl hx⟩ h7⟩
    rw[hget] at hm
    by_cases hmj:m=j
    ·subst hmj;exact⟨_,hj⟩
    ·rw[if_neg hmj] at hm;exact⟨_,hm⟩
   ·exact ih hK
  ·exact ih hK
theorem qM1{h0:Hp reg.T}{l:List Nat}{i:Nat}{r r':V reg.T×Hp reg.T}(hK:(qOM reg l i r).K (·= r')):gM h0 r r':=by
 unfold qOM at hK
 split at hK
 ·rename_i ob hi
  split at hK
  ·rename_i d hd
   obtain⟨hok,hK⟩:=Out.aO.1 hK
   rw[Out.aU] at hK
   obtain⟨h',h1,h2⟩:=(Out.bP _ _).1 hK
   have h2:(V.frz reg i d r.1,h')=r':=h2
   subst h2
   obtain⟨hnx,hfo⟩:=qFL h1
   refine gM.of (by simp only[hnx];exact dh _) (fun N F φ w cv hH hv=>?_)
   let F':Nat→Prop:=fun b=>F b∨∃s k z,φ i=some (b,s,k,z)
   have hFF:∀b,F b→F' b:=fun b hb=>.inl hb
   have hfz:∀v cv,aA reg F w φ v cv→V.gW i (ob.len reg) v=true→aA reg F' w φ (V.frz reg i d v) cv:=fun v cv hv hok =>
    qGS hFF (fun off len cap cv hv hle=>qGT hFF (hH.obj i ob hi) hd (fun b s k z hp=>.inr ⟨s,k,z,hp⟩) off len cap cv hv hle) hv hok
   have hrem:=yH hH hi
   have hk:=hH.ok i (hH.lt i ob hi)
   have hm:∀b,F b→F' b∧w.heap[b]? = w.heap[b]?:=fun b hb=>⟨.inl hb,rfl⟩
   have hget:∀m,(r.2.set i none).get m=if m=i then none else r.2.get m:=jT hk
   have hH':HR N F' φ (r.2.set i none) w:=by
    refine⟨fun j o ho=>(hrem.1.obj j o ho).mono reg hm (fun _ _ e=>e) (fun e=>e) (fun _ _ _ _=>rfl),fun j o b s k ho hp=>⟨?_,(hrem.1.own j o b s k ho hp).2⟩,hrem.1.inj,hrem.1.dom,hrem.1.lt,hrem.1.ok,fun b hb=>?_,hrem.1.lay.mono reg hm⟩
    ·rintro(hb | ⟨s',k',z',hp'⟩)
     ·exact(hrem.1.own j o b s k ho hp).1 hb
     ·rw[hget] at ho
      by_cases hji:j=i
      ·rw[if_pos hji] at ho;cases ho
      ·rw[if_neg hji] at ho
       exact hji (hH.inj j i o ob b s k s' (k',z') ho hi hp hp')
    ·rcases hb with hb | ⟨s',k',z',hp'⟩
     ·exact hH.frz b hb
     ·exact(hH.own i ob b s' (k',z') hi hp').2
   have hfz':∀v cv,aA reg F' w φ v cv→V.gW i (ob.len reg) v=true→aA reg F' w φ (V.frz reg i d v) cv:=by
    refine fun v cv hv hok=>qGS (fun _ h=>h) (fun off len cap cv hv hle=>?_) hv hok
    have hv':aA reg F w φ (.sl i off len cap) cv:=by
     cases hv with
     | sl _ _ _ _ b s k z cap' hp hc hl hm' hz=>exact .sl i off len cap b s k z cap' hp hc hl hm' hz
     | slz _ _ _ base hc hnb=>exact .slz i off cap base hc hnb
    exact qGT hFF (hH.obj i ob hi) hd (fun b s k z hp=>.inr ⟨s,k,z,hp⟩) off len cap cv hv' hle
   obtain⟨h3,h4⟩:=hfo (F0:=F) hFF hfz' hH'
   refine⟨_,h',N,F',φ,rfl,hfz _ _ hv hok,h3,GO.trans (h':=r.2.set i none) ?_ h4⟩
   refine⟨⟨rfl,rfl,rfl,dh _,fun _ _ _=>rfl,hFF,fun b hb=>?_,fun _ _=>rfl,fun _ h=>h,hrem.2.goes.dom,fun j p hp=>.inl (hH.dom j p hp)⟩,hrem.2.grow,fun _ h=>.inl h⟩
   rcases hb with hb | ⟨s',k',z',hp'⟩
   ·exact .inl hb
   ·exact .inr (.inr ⟨i,ob,s',(k',z'),hi,hp'⟩)
  ·cases hK;exact gM.refl _ _
 ·cases hK;exact gM.refl _ _
theorem nV{h0:Hp reg.T}{l:List Nat}:∀{is:List Nat} {r r':V reg.T×Hp reg.T},(rE reg l is r).K (·= r')→gM h0 r r':=by
 intro is
 induction is with
 | nil=>intro r r' h;cases h;exact gM.refl _ _
 | cons i is ih =>
  intro r r' h
  simp only[rE] at h
  rw[Out.aU] at h
  obtain⟨r1,h1,h2⟩:=(Out.bP _ _).1 h
  exact(qM1 h1).trans (ih h2)
theorem qFM{N F:Nat→Prop}{φ:Phi}{w:World}{keep:List Nat}:∀{l:List Nat} {h:Hp reg.T},HR N F φ h w→HR N F φ (kL keep l h) w∧GO N F φ h w N F φ (kL keep l h) w:=by
 intro l
 induction l with
 | nil=>intro h hH;exact⟨hH,GO.refl hH⟩
 | cons i l ih =>
  intro h hH
  simp only[kL]
  split
  ·exact ih hH
  ·split
   ·rename_i o ho
    obtain⟨h1,h2⟩:=yH hH ho
    obtain⟨h3,h4⟩:=ih h1
    exact⟨h3,h2.trans h4⟩
   ·exact ih hH
theorem qFN{keep:List Nat}:∀{l:List Nat} {h:Hp reg.T},(kL keep l h).nx=h.nx:=by
 intro l
 induction l with
 | nil=>intro h;rfl
 | cons i l ih =>
  intro h
  simp only[kL]
  split
  ·exact ih
  ·split
   ·rw[ih];rfl
   ·exact ih
theorem rF{h0:Hp reg.T}{r r':V reg.T×Hp reg.T}(hK:(fZ reg h0 r).K (·= r')):gM h0 r r':=by
 unfold fZ at hK
 simp only at hK
 rw[Out.aU] at hK
 obtain⟨r1,h1,h2⟩:=(Out.bP _ _).1 hK
 have h2:=h2.symm
 subst h2
 refine(nV h1).trans (gM.of (by simp only[qFN];exact dh _) (fun N F φ w cv hH hv=>?_))
 obtain⟨h3,h4⟩:=qFM (l:=List.range' h0.nx (r.2.nx-h0.nx)) (keep:=reach r1.2.get 1000 0 (((qOi h0 r.2).filter fun i=>Nat.blt i h0.nx).foldl (fun a j=>wP (r1.2.get j) a) (V.names r1.1 []))) hH
 exact⟨_,_,N,F,φ,rfl,hv,h3,h4⟩
def DTo(x z:D reg.T):Prop:=∀F w cv,dQ reg F w x cv→dQ reg F w z cv
def VTo(v u:V reg.T):Prop:=(v.aP=true→u.aP=true)∧∀F w φ cv,aA reg F w φ v cv→aA reg F w φ u cv
def Sel{α:Type}(R:α→α→Prop)(b:Bool)(x y z:α):Prop:=(b=true→R x z)∧(b=false→R y z)
theorem sZ{z:D reg.T}(hz:z.qR=true)(hl:z.len? reg=some 0):DTo (reg:=reg) .nils z:=by
 intro F w cv h
 cases h with
 | nils=>exact .emp z hz hl none 0
 | emp _ hx=>simp[D.qR] at hx
 | sl _ _ _ _ _ _ _ hx=>simp[D.qR] at hx
theorem qJD{b:Bool}{x y z:D reg.T}(h:qJA reg b x y=some z):Sel DTo b x y z:=by
 unfold qJA at h
 split at h
 case h_2 =>
  split at h
  ·rename_i hk
   have:= fV hk
   subst this
   cases h
   constructor<;>(rintro rfl;exact fun F w cv h=>h)
  ·cases h
 case h_9 =>
  split at h
  ·rename_i zs hzs
   obtain⟨he,hz⟩:=qDT hzs
   subst he
   cases h
   subst hz
   constructor<;>(rintro rfl;exact fun F w cv h=>h)
  ·cases h
 case h_10 =>
  cases h
  exact⟨by rintro rfl;exact sZ rfl rfl,by rintro rfl;exact fun F w cv h=>h⟩
 case h_11 =>
  cases h
  exact⟨by rintro rfl;exact fun F w cv h=>h,by rintro rfl;exact sZ rfl rfl⟩
 case h_12 =>
  split at h
  ·rename_i hk
   have:= cz hk
   subst this
   cases h
   constructor<;>(rintro rfl;exact fun F w cv h=>h)
  ·cases h
 case h_13 =>
  cases h
  exact⟨by rintro rfl;exact sZ rfl rfl,by rintro rfl;exact fun F w cv h=>h⟩
 case h_14 =>
  cases h
  exact⟨by rintro rfl;exact fun F w cv h=>h,by rintro rfl;exact sZ rfl rfl⟩
 all_goals first | (cases h;done) | (cases h;constructor<;>(rintro rfl;exact fun F w cv h=>h))
theorem VTo.refl(v:V reg.T):VTo v v:=⟨id,fun _ _ _ _ h=>h⟩
theorem qGU{vs us:List (V reg.T)}(hl:us.length=vs.length)(h:∀j,j<vs.length→VTo (vs.getD j .any) (us.getD j .any)){F:Nat→Prop}{w:World}{φ:Phi}{c:Nat→Value}
  (hr:∀j,j<vs.length→aA reg F w φ (vs.getD j .any) (c j)):∀j,j<us.length→aA reg F w φ (us.getD j .any) (c j):=fun j hj=>(h j (by omega)).2 F w φ _ (hr j (by omega))
theorem qEp{b:Bool}:∀(v u x:V reg.T),kI reg b v u=some x→Sel VTo b v u x:=by
 have key:∀(n:Nat) (v u x:V reg.T),SizeOf.sizeOf v<n→kI reg b v u=some x→Sel VTo b v u x:=by
  intro n
  induction n with
  | zero=>intro v u x hv;omega
  | succ n ih =>
   have lists:∀(vs us xs:List (V reg.T)),SizeOf.sizeOf vs<n+1→kI.goL reg b vs us=some xs→(xs.length=vs.length∧xs.length=us.length)∧∀j,j<xs.length→Sel VTo b (vs.getD j .any) (us.getD j .any) (xs.getD j .any):=by
    intro vs
    induction vs with
    | nil =>
     intro us xs _ h
     cases us with
     | nil=>simp only[kI.goL,cu] at h;subst h;exact⟨⟨rfl,rfl⟩,fun j hj=>by simp at hj⟩
     | cons u us=>simp[kI.goL] at h
    | cons v vs ihv =>
     intro us xs hs h
     simp only[ny] at hs
     cases us with
     | nil=>simp[kI.goL] at h
     | cons u us =>
      simp only[kI.goL] at h
      split at h
      ·rename_i x l hx hl
       cases h
       obtain⟨⟨h1,h2⟩,h3⟩:=ihv us l (by omega) hl
       refine⟨⟨by simp[h1],by simp[h2]⟩,fun j hj=>?_⟩
       cases j with
       | zero=>exact ih v u x (by omega) hx
       | succ j=>exact h3 j (by simpa using hj)
      ·cases h
   intro v u x hv h
   have wrap:∀{vs us xs:List (V reg.T)},((xs.length=vs.length∧xs.length=us.length)∧∀j,j<xs.length→Sel VTo b (vs.getD j .any) (us.getD j .any) (xs.getD j .any)) →
     (b=true→∀F w φ (cs:Array Value),vs.length=cs.size→(∀j,j<vs.length→aA reg F w φ (vs.getD j .any) (cs.getD j undef))→xs.length=cs.size∧∀j,j<xs.length→aA reg F w φ (xs.getD j .any) (cs.getD j undef)) ∧
     (b=false→∀F w φ (cs:Array Value),us.length=cs.size→(∀j,j<us.length→aA reg F w φ (us.getD j .any) (cs.getD j undef))→xs.length=cs.size∧∀j,j<xs.length→aA reg F w φ (xs.getD j .any) (cs.getD j undef)):=by
    rintro vs us xs ⟨⟨h1,h2⟩,h3⟩
    exact⟨fun hb F w φ cs hz hr=>⟨by omega,qGU h1 (fun j hj=>(h3 j (by omega)).1 hb) hr⟩,fun hb F w φ cs hz hr=>⟨by omega,qGU h2 (fun j hj=>(h3 j (by omega)).2 hb) hr⟩⟩
   unfold kI at h
   split at h
   case h_1 =>
    split at h
    ·rename_i z hz
     cases h
     have:= qJD hz
     exact⟨fun hb=>⟨fun _=>rfl,fun F w φ cv hv=>.d _ _ (this.1 hb F w cv hv.qEo)⟩,fun hb=>⟨fun _=>rfl,fun F w φ cv hv=>.d _ _ (this.2 hb F w cv hv.qEo)⟩⟩
    ·cases h
   case h_2 =>
    split at h
    ·rename_i hk
     simp only[bu] at hk
     have e1:=cz hk.1.1
     have e2:=cz hk.1.2
     have e3:=cz hk.2
     subst e1 e2 e3
     cases h
     exact⟨fun _=>VTo.refl _,fun _=>VTo.refl _⟩
    ·cases h
   case h_3=>cases h;exact⟨fun _=>VTo.refl _,fun _=>VTo.refl _⟩
   case h_4=>cases h;exact⟨fun _=>VTo.refl _,fun _=>VTo.refl _⟩
   case h_5 =>
    split at h
    ·rename_i l hl
     cases h
     simp only[V.agg.sizeOf_spec] at hv
     obtain⟨w1,w2⟩:=wrap (lists _ _ _ (by omega) hl)
     refine⟨fun hb=>⟨fun h=>by simp[V.aP] at h,fun F w φ cv hv=>?_⟩,fun hb=>⟨fun h=>by simp[V.aP] at h,fun F w φ cv hv=>?_⟩⟩
     ·cases hv with | agg _ cs hz hr=>obtain⟨a1,a2⟩:=w1 hb F w φ cs hz hr;exact .agg _ cs a1 a2
     ·cases hv with | agg _ cs hz hr=>obtain⟨a1,a2⟩:=w2 hb F w φ cs hz hr;exact .agg _ cs a1 a2
    ·cases h
   case h_6 =>
    split at h
    ·rename_i l hl
     cases h
     simp only[V.tup.sizeOf_spec] at hv
     obtain⟨w1,w2⟩:=wrap (lists _ _ _ (by omega) hl)
     refine⟨fun hb=>⟨fun h=>by simp[V.aP] at h,fun F w φ cv hv=>?_⟩,fun hb=>⟨fun h=>by simp[V.aP] at h,fun F w φ cv hv=>?_⟩⟩
     ·cases hv with | tup _ cs hz hr=>obtain⟨a1,a2⟩:=w1 hb F w φ cs hz hr;exact .tup _ cs a1 a2
     ·cases hv with | tup _ cs hz hr=>obtain⟨a1,a2⟩:=w2 hb F w φ cs hz hr;exact .tup _ cs a1 a2
    ·cases h
   case h_7=>cases h
 intro v u x h
 exact key (SizeOf.sizeOf v+1) v u x (by omega) h
theorem qJE{b:Bool}:∀{vs us xs:List (V reg.T)},kI.goL reg b vs us=some xs→(xs.length=vs.length∧xs.length=us.length)∧∀j,j<xs.length→Sel VTo b (vs.getD j .any) (us.getD j .any) (xs.getD j .any):=by
 intro vs
 induction vs with
 | nil =>
  intro us xs h
  cases us with
  | nil=>simp only[kI.goL,cu] at h;subst h;exact⟨⟨rfl,rfl⟩,fun j hj=>by simp at hj⟩
  | cons u us=>simp[kI.goL] at h
 | cons v vs ihv =>
  intro us xs h
  cases us with
  | nil=>simp[kI.goL] at h
  | cons u us =>
   simp only[kI.goL] at h
   split at h
   ·rename_i x l hx hl
    cases h
    obtain⟨⟨h1,h2⟩,h3⟩:=ihv hl
    refine⟨⟨by simp[h1],by simp[h2]⟩,fun j hj=>?_⟩
    cases j with
    | zero=>exact qEp _ _ _ hx
    | succ j=>exact h3 j (by simpa using hj)
   ·cases h
theorem qEq{b:Bool}:∀{rs ss ts:List (List (V reg.T))},lH reg b rs ss=some ts→(ts.length=rs.length∧ts.length=ss.length)∧∀r,r<ts.length →
  ((ts.getD r []).length=(rs.getD r []).length∧(ts.getD r []).length=(ss.getD r []).length)∧∀j,j<(ts.getD r []).length→Sel VTo b ((rs.getD r []).getD j .any) ((ss.getD r []).getD j .any) ((ts.getD r []).getD j .any):=by
 intro rs
 induction rs with
 | nil =>
  intro ss ts h
  cases ss with
  | nil=>simp only[lH,cu] at h;subst h;exact⟨⟨rfl,rfl⟩,fun r hr=>by simp at hr⟩
  | cons s ss=>simp[lH] at h
 | cons r rs ih =>
  intro ss ts h
  cases ss with
  | nil=>simp[lH] at h
  | cons s ss =>
   simp only[lH] at h
   split at h
   ·rename_i x l hx hl
    cases h
    obtain⟨⟨h1,h2⟩,h3⟩:=ih hl
    refine⟨⟨by simp[h1],by simp[h2]⟩,fun j hj=>?_⟩
    cases j with
    | zero=>exact qJE hx
    | succ j=>exact h3 j (by simpa using hj)
   ·cases h
def OTo(o o':O reg.T):Prop:=∀F w φ i,eZ reg F w φ i o→eZ reg F w φ i o'
theorem qGV{k:Nat}{xs zs:List (List (V reg.T))}(hl:zs.length=xs.length)(h:∀r,r<zs.length→(zs.getD r []).length=(xs.getD r []).length∧∀j,j<(zs.getD r []).length→VTo ((xs.getD r []).getD j .any) ((zs.getD r []).getD j .any)) :
  OTo (.rows k xs) (.rows k zs):=by
 rintro F w φ i ho
 obtain⟨h0,ho⟩:=ho.rows reg rfl
 refine .inl ⟨rfl,?_⟩
 rcases ho with⟨h1,h2⟩ | ⟨b,s,C,t,fz,h1,h2,h3,h4⟩
 ·exact .inl ⟨by simp only[O.len] at h1 ⊢;omega,h2⟩
 ·refine .inr ⟨b,s,C,t,fz,h1,h2,h3,⟨?_,?_,⟨fun r hr=>?_,fun r j hr hj=>?_,fun r j hr hj=>?_⟩⟩⟩
  ·have:= h4.size;simp only[O.len,O.k,hl] at this ⊢;exact this
  ·have:= h4.len;simp only[O.len,hl] at this ⊢;exact this
  ·simp only[O.len] at hr
   have:= h4.at_.wid r (by simp only[O.len];omega)
   simp only[O.row,O.k] at this ⊢
   rw[(h r hr).1,this]
  ·simp only[O.len,O.k] at hr hj
   have hw:=h4.at_.wid r (by simp only[O.len];omega)
   simp only[O.row,O.k] at hw ⊢
   exact((h r hr).2 j (by rw[(h r hr).1,hw];exact hj)).1 (h4.at_.aP r j (by simp only[O.len];omega) hj)
  ·simp only[O.len,O.k] at hr hj
   have hw:=h4.at_.wid r (by simp only[O.len];omega)
   simp only[O.row,O.k] at hw ⊢
   exact((h r hr).2 j (by rw[(h r hr).1,hw];exact hj)).2 F w φ _ (h4.at_.rel r j (by simp only[O.len];omega) hj)
theorem qJF{b:Bool}{o o' z:O reg.T}(h:qJB reg b o o' = some z):Sel OTo b o o' z:=by
 unfold qJB at h
 split at h
 ·split at h
  ·rename_i zs hk hz
   have:= cz hk
   subst this
   cases h
   obtain⟨⟨h1,h2⟩,h3⟩:=qEq hz
   exact⟨fun hb=>qGV h1 (fun r hr=>⟨(h3 r hr).1.1,fun j hj=>((h3 r hr).2 j hj).1 hb⟩),fun hb=>qGV h2 (fun r hr=>⟨(h3 r hr).1.2,fun j hj=>((h3 r hr).2 j hj).2 hb⟩)⟩
  ·cases h
 ·split at h
  ·rename_i zs hzs
   obtain⟨he,hz⟩:=qDT hzs
   subst he
   cases h
   subst hz
   constructor<;>(rintro rfl;exact fun F w φ i h=>h)
  ·cases h
 ·cases h
theorem qJG{l:List Nat}{i j:Nat}:j∈addN l i↔j∈l∨j=i:=by
 unfold addN
 split
 ·rename_i h
  have:= bZ.1 h
  constructor
  ·exact .inl
  ·rintro(h | rfl)
   ·exact h
   ·exact this
 ·simp
theorem rG:∀(l a:List Nat) (j:Nat),j∈l.foldl addN a↔j∈a∨j∈l
 | [],a,j=>by simp
 | i::l,a,j=>by
  rw[lv,rG l _ j,qJG]
  simp only[fu]
  constructor
  ·rintro((h | h) | h)
   ·exact .inl h
   ·exact .inr (.inl h)
   ·exact .inr (.inr h)
  ·rintro(h | h | h)
   ·exact .inl (.inl h)
   ·exact .inl (.inr h)
   ·exact .inr h
theorem qEr{b:Bool}{h h':Hp reg.T}:∀{l:List Nat} {t t':Tr (O reg.T)},nU reg b h h' l t=some t'→∀j,(j ∉ l∧t'.get j=t.get j)∨(j∈l ∧
  ((h.get j=none∧h'.get j=none∧t'.get j=none)∨∃o o' z,h.get j=some o∧h'.get j=some o'∧t'.get j=some z∧Sel OTo b o o' z)):=by
 intro l
 induction l with
 | nil=>intro t t' hj j;simp only[nU,cu] at hj;subst hj;exact .inl ⟨by simp,rfl⟩
 | cons i l ih =>
  intro t t' hj j
  simp only[nU] at hj
  split at hj
  ·rename_i hok h1 h2
   rcases ih hj j with⟨h3,h4⟩ | ⟨h3,h4⟩
   ·rw[Tr.dG hok] at h4
    by_cases hji:j=i
    ·subst hji
     rw[if_pos rfl] at h4
     exact .inr ⟨by simp,.inl ⟨h1,h2,h4⟩⟩
    ·rw[if_neg hji] at h4
     exact .inl ⟨by simp[hji,h3],h4⟩
   ·exact .inr ⟨by simp[h3],h4⟩
  ·rename_i o o' hok h1 h2
   split at hj
   ·rename_i z hz
    rcases ih hj j with⟨h3,h4⟩ | ⟨h3,h4⟩
    ·rw[Tr.dG hok] at h4
     by_cases hji:j=i
     ·subst hji
      rw[if_pos rfl] at h4
      exact .inr ⟨by simp,.inr ⟨o,o',z,h1,h2,h4,qJF hz⟩⟩
     ·rw[if_neg hji] at h4
      exact .inl ⟨by simp[hji,h3],h4⟩
    ·exact .inr ⟨by simp[h3],h4⟩
   ·cases hj
  ·cases hj
theorem qCz{h0:Hp reg.T}{r:V reg.T×Hp reg.T}{v:V reg.T}{t:Tr (O reg.T)}{nx:Nat}{L l:List Nat}(hv:VTo r.1 v)(hn:r.2.nx≤nx)(hL:∀i∈r.2.wr.take (r.2.wr.length-h0.wr.length),i∈L)(hl:∀i,i∈L→i∈l)
  (hll:∀i,i∈l→i∈L∨(h0.nx≤i∧i<nx)) (hln:∀i,h0.nx≤i→i<nx→i∈l)
  (ht:∀j,(j ∉ l∧t.get j=h0.h.get j)∨(j∈l∧((r.2.get j=none∧t.get j=none)∨∃o z,r.2.get j=some o∧t.get j=some z∧OTo o z))):gM h0 r (v,⟨t,nx,L++h0.wr⟩):=by
 refine⟨hn,fun N F φ w cv w' hR=>?_⟩
 obtain⟨v1,h1,N',F',φ',hq,hv1,hH,hG⟩:=hR
 subst hq
 simp only at hn hL ht hv
 have hgr:=hG.grow
 obtain⟨g1,M,g2,g3⟩:=hgr
 have hM:∀i,i∈M→i∈L:=by
  intro i hi
  refine hL i ?_
  rw[g2]
  simpa using hi
 have hpt:∀j,(h1.get j=none∧t.get j=none)∨∃o z,h1.get j=some o∧t.get j=some z∧OTo o z:=by
  intro j
  rcases ht j with⟨a,b⟩ | ⟨a,b⟩
  ·have e:h1.get j=h0.get j:=g3 j (fun hj=>a (hl j (hM j hj))) (fun⟨x,y⟩=>a (hln j x (by omega)))
   have e':t.get j=h0.get j:=b
   rw[e,e']
   cases hj:h0.get j with
   | none=>exact .inl ⟨rfl,rfl⟩
   | some o=>exact .inr ⟨o,o,rfl,rfl,fun _ _ _ _ h=>h⟩
  ·exact b
 have hback:∀i o',t.get i=some o'→∃o,h1.get i=some o∧OTo o o':=by
  intro i o' hi
  rcases hpt i with⟨_,b⟩ | ⟨o,z,a,b,c⟩
  ·rw[hi] at b;cases b
  ·rw[hi] at b;cases b;exact⟨o,a,c⟩
 refine⟨v,⟨t,nx,L++h0.wr⟩,N',F',φ',rfl,hv.2 _ _ _ _ hv1,hH.turn (fun i o' hi=>?_),hG.goes.turn (fun i o' hi=>?_),⟨dm g1 hn,L,rfl,fun i hi hni=>?_⟩,fun i hi=>?_⟩
 ·obtain⟨o,h2,h3⟩:=hback i o' hi
  exact⟨o,h2,fun h=>h3 _ _ _ _ h⟩
 ·obtain⟨o,h2,_⟩:=hback i o' hi
  exact⟨o,h2⟩
 ·rcases ht i with⟨_,b⟩ | ⟨a,_⟩
  ·exact b
  ·rcases hll i a with h | h
   ·exact(hi h).elim
   ·exact(hni h).elim
 ·rcases hG.names i hi with h | h
  ·exact .inl h
  ·exact .inr ⟨h.1,gq h.2 hn⟩
theorem qEs{h0:Hp reg.T}{b:Bool}{r r' z:V reg.T×Hp reg.T}(h:qAV reg h0 b r r' = some z):Sel (gM h0) b r r' z:=by
 unfold qAV at h
 simp only at h
 split at h
 ·rename_i v t hv ht
  cases h
  have hj:=qEp _ _ _ hv
  have hobj:=qEr ht
  have hmem:∀i,i∈(r.2.wr.take (r.2.wr.length-h0.wr.length)++r'.2.wr.take (r'.2.wr.length-h0.wr.length)++List.range' h0.nx (Nat.add r.2.nx (Nat.sub r'.2.nx r.2.nx)-h0.nx)).foldl addN [] ↔
    i∈r.2.wr.take (r.2.wr.length-h0.wr.length)++r'.2.wr.take (r'.2.wr.length-h0.wr.length)∨(h0.nx≤i∧i<Nat.add r.2.nx (Nat.sub r'.2.nx r.2.nx)):=by
   intro i
   rw[rG,dw (t:=List.range' _ _),mh]
   simp only[List.not_mem_nil,false_or]
   constructor
   ·rintro(h | h)
    ·exact .inl h
    ·exact .inr (by omega)
   ·rintro(h | h)
    ·exact .inl h
    ·exact .inr (by omega)
  have hnx:r.2.nx≤Nat.add r.2.nx (Nat.sub r'.2.nx r.2.nx)∧r'.2.nx≤Nat.add r.2.nx (Nat.sub r'.2.nx r.2.nx):=by
   have: Nat.add r.2.nx (Nat.sub r'.2.nx r.2.nx)=r.2.nx+(r'.2.nx-r.2.nx):=rfl
   omega
  constructor
  ·intro hb
   refine qCz (hj.1 hb) hnx.1 (fun i hi=>qj _ hi) (fun i hi=>(hmem i).2 (.inl hi)) (fun i hi=>(hmem i).1 hi) (fun i h1 h2=>(hmem i).2 (.inr ⟨h1,h2⟩)) (fun j=>?_)
   rcases hobj j with h | ⟨h1,h2⟩
   ·exact .inl h
   ·refine .inr ⟨h1,?_⟩
    rcases h2 with⟨a,_,c⟩ | ⟨o,o',z,a,_,c,d⟩
    ·exact .inl ⟨a,c⟩
    ·exact .inr ⟨o,z,a,c,d.1 hb⟩
  ·intro hb
   refine qCz (hj.2 hb) hnx.2 (fun i hi=>nz _ hi) (fun i hi=>(hmem i).2 (.inl hi)) (fun i hi=>(hmem i).1 hi) (fun i h1 h2=>(hmem i).2 (.inr ⟨h1,h2⟩)) (fun j=>?_)
   rcases hobj j with h | ⟨h1,h2⟩
   ·exact .inl h
   ·refine .inr ⟨h1,?_⟩
    rcases h2 with⟨_,b,c⟩ | ⟨o,o',z,_,b,c,d⟩
    ·exact .inl ⟨b,c⟩
    ·exact .inr ⟨o',z,b,c,d.2 hb⟩
 ·cases h
theorem qGW{α:Type}{J:Bool→α→α→Option α}{R:α→α→Prop}(hr:∀a,R a a)(ht:∀a b c,R a b→R b c→R a c)(hJ:∀b x y z,J b x y=some z→Sel R b x y z) :
  ∀(o:Out α) (p:Bool) (a:α),flat J o=.one p a→p=true→o.K fun r=>R r a:=by
 intro o
 induction o with
 | ret a=>intro p x h _;simp only[flat,Fl.one.injEq] at h;rw[←h.2];exact hr a
 | need b o ih =>
  intro p x h hp
  simp only[flat] at h
  split at h
  ·rename_i q y hq
   cases h
   simp only[bu] at hp
   exact Out.aO.2 ⟨hp.1,ih q _ hq hp.2⟩
  ·rename_i hne;exact(hne _ _ h).elim
 | br b x y ihx ihy =>
  intro p a h hp
  simp only[flat] at h
  simp only[Out.K,dY]
  split at h
  ·cases h
  ·rename_i q c _ hq
   cases h
   simp only[bu,jv] at hp
   exact⟨fun hb=>by rw[hb] at hp;simp at hp,fun _=>ihy q _ hq hp.2⟩
  ·rename_i q c hq _
   cases h
   simp only[bu] at hp
   exact⟨fun _=>ihx q _ hq hp.2,fun hb=>by rw[hb] at hp;simp at hp⟩
  ·rename_i q c q' c' hq hq'
   split at h
   ·rename_i l hl
    cases h
    have:= hJ _ _ _ _ hl
    refine⟨fun hb=>?_,fun hb=>?_⟩
    ·subst hb
     exact Out.bN (ihx q c hq hp) (fun r hr'=>ht _ _ _ hr' (this.1 rfl))
    ·subst hb
     exact Out.bN (ihy q' c' hq' hp) (fun r hr'=>ht _ _ _ hr' (this.2 rfl))
   ·cases h
  ·cases h
 | bad=>intro p a h;simp[flat] at h
theorem qI6{α:Type}{J:Bool→α→α→Option α}{R:α→α→Prop}(hr:∀a,R a a)(ht:∀a b c,R a b→R b c→R a c)(hJ:∀b x y z,J b x y=some z→Sel R b x y z) :
  ∀(o:Out α) (Q:α→Prop),(pW J o).K Q→o.K fun r=>∃r',Q r'∧R r r':=by
 intro o
 induction o with
 | ret a=>intro Q h;unfold pW at h;simp only[flat] at h;exact⟨a,(Out.aO.1 h).2,hr a⟩
 | need b o ih =>
  intro Q h
  unfold pW at h
  split at h
  ·exact h.elim
  ·rename_i p a hf
   obtain⟨hp,hq⟩:=Out.aO.1 h
   exact Out.bN (qGW hr ht hJ _ p a hf hp) (fun r h'=>⟨a,hq,h'⟩)
  ·obtain⟨h1,h2⟩:=Out.aO.1 h
   exact Out.aO.2 ⟨h1,ih Q h2⟩
 | br b x y ihx ihy =>
  intro Q h
  unfold pW at h
  split at h
  ·exact h.elim
  ·rename_i p a hf
   obtain⟨hp,hq⟩:=Out.aO.1 h
   exact Out.bN (qGW hr ht hJ _ p a hf hp) (fun r h'=>⟨a,hq,h'⟩)
  ·simp only[Out.K,dY] at h ⊢
   exact⟨fun hb=>ihx Q (h.1 hb),fun hb=>ihy Q (h.2 hb)⟩
 | bad=>intro Q h;unfold pW at h;simp only[flat] at h;exact h.elim
theorem qFO{h0:Hp reg.T}{o:Out (V reg.T×Hp reg.T)}{Q:V reg.T×Hp reg.T→Prop}(h:(qGP reg h0 o).K Q):o.K fun r=>∃r',Q r'∧gM h0 r r':=by
 have h1:=qI6 (R:=gM h0) (gM.refl h0) (fun _ _ _=>gM.trans) (fun _ _ _ _=>qEs) _ Q h
 rw[Out.aU] at h1
 refine Out.bN h1 (fun r h2=>?_)
 obtain⟨r1,h3,r2,h4,h5⟩:=(Out.bP _ _).1 h2
 exact⟨r2,h4,(rF h3).trans h5⟩
theorem iJ(hm:P.follows .mixedOrders=true)(hno:∀(f:FuncId) fn,P.funcs[f]? = some fn→fn.body.isNone=false→(fn.name == "runtime.NumGoroutine")=false){C:Con reg.T}(hC:qNZ P C)(tid:FuncId→Bool)(fuel:Nat) :
  ∀n,bT P (hdT reg P C tid fuel n):=by
 intro n
 induction n with
 | zero =>
  intro f args h Q hq
  simp only[hdT] at hq
  split at hq
  ·rename_i S hS;exact hC f S hS args h Q hq
  ·exact hq.elim
 | succ n ih =>
  intro f args h Q hq
  simp only[hdT] at hq
  split at hq
  ·rename_i S hS;exact hC f S hS args h Q hq
  ·split at hq
   ·obtain⟨h1,h2⟩:=zY hm ih hno fuel f args h _ (qFO hq)
    refine⟨h1,fun N F φ w cargs hfr hH hl=>?_⟩
    refine(h2 N F φ w cargs ?_ hH hl).mono (fun e w' he=>?_)
    ·rintro r ⟨r',hq',ht⟩ i hi1 hi2
     exact hfr r' hq' i hi1 (gq hi2 ht.1)
    ·obtain⟨cv,he,v,h',N',F',φ',⟨r',hq',ht⟩,hv,hH',hG⟩:=he
     obtain⟨v2,h2',N2,F2,φ2,e2,a,b,c⟩:=ht.2 N F φ w cv w' ⟨v,h',N',F',φ',rfl,hv,hH',hG⟩
     exact⟨cv,he,v2,h2',N2,F2,φ2,e2▸hq',a,b,c⟩
   ·exact zY hm ih hno fuel f args h Q hq
end
end Go.W
namespace Go.W
open Go Go.RowKit
def mQ:Code→Nat
 | .region id _ _=>id
 | .seq a _=>mQ a
 | .cond _ a _=>mQ a
 | .block _ c=>mQ c
 | .loop c=>mQ c
 | _=>0
section
variable {T:Nat→Type}
structure CSt(T:Nat→Type) where
 env:List (Nat×V T)
 aL:List (Nat×O T)
 nx:Nat
def bD{α:Type}:List (Nat×α)→Tr α→Tr α
 | [],t=>t
 | (i,x)::l,t=>(bD l t).set i (some x)
def CSt.st(s:CSt T):St T:=⟨bD s.env .e,⟨bD s.aL .e,s.nx,[]⟩⟩
def aQ{α:Type}:List (Nat×α)→Nat→Option α
 | [],_=>none
 | (i,x)::l,j=>(match Nat.beq i j with | true=>some x | false=>aQ l j)
def qQE(i j:Nat)(l:List (Nat×Nat)):List (Nat×Nat):=match aQ l i with | some _=>l | none=>(i,j)::l
def V.pairs:V T→V T→List (Nat×Nat)→List (Nat×Nat)
 | .ptr i _ _,.ptr j _ _,l=>qQE i j l
 | .sl i _ _ _,.sl j _ _ _,l=>qQE i j l
 | .agg vs,.agg us,l=>goL vs us l
 | .tup vs,.tup us,l=>goL vs us l
 | .fn _ vs vs',.fn _ us us',l=>goL vs' us' (goL vs us l)
 | _,_,l=>l
where goL:List (V T)→List (V T)→List (Nat×Nat)→List (Nat×Nat)
 | v::vs,u::us,l=>goL vs us (V.pairs v u l)
 | _,_,l=>l
def qJH:List (List (V T))→List (List (V T))→List (Nat×Nat)→List (Nat×Nat)
 | r::rs,s::ss,l=>qJH rs ss (V.pairs.goL r s l)
 | _,_,l=>l
def qJI:Nat→List (Nat×Nat)
 | 0=>[]
 | n+1=>(n,n)::qJI n
def qJJ:D T→D T→Prop
 | .sl _ xs,.nils=>xs=[]
 | .usl _ xs,.nils=>xs=[]
 | .int k n,.int k' m=>must (sameKind k k') (n=m)
 | .bool b,.bool c=>b=c
 | .str s,.str t=>s=t
 | x,y=>x=y
def qDv:Cap→Cap→Prop
 | .exact c,.exact c'=>c=c'
 | .least c,.exact c'=>c≤c'
 | .least c,.least c'=>c≤c'
 | .exact _,.least _=>False
def lI(ρ:List (Nat×Nat))(i j:Nat):Bool:=match aQ ρ i with | some k=>Nat.beq k j | none=>false
def gB(ρ:List (Nat×Nat)):V T→V T→Prop
 | .d x,.d y=>qJJ x y
 | .ptr i r o,.ptr j r' o'=>must (lI ρ i j) (r=r'∧o=o')
 | .sl i off len cap,.sl j off' len' cap'=>must (lI ρ i j) (off=off'∧len=len'∧qDv cap cap')
 | .agg vs,.agg us=>goL ρ vs us
 | .tup vs,.tup us=>goL ρ vs us
 | .fn f vs vs',.fn g us us'=>must (Nat.beq f g) (goL ρ vs us∧goL ρ vs' us')
 | .undef,.undef=>True
 | _,_=>False
where goL (ρ:List (Nat×Nat)):List (V T)→List (V T)→Prop
 | [],[]=>True
 | v::vs,u::us=>gB ρ v u∧goL ρ vs us
 | _,_=>False
def qON(ρ:List (Nat×Nat)):List (List (V T))→List (List (V T))→Prop
 | [],[]=>True
 | r::rs,s::ss=>gB.goL ρ r s∧qON ρ rs ss
 | _,_=>False
def qI7(ρ:List (Nat×Nat)):O T→O T→Prop
 | .rows k xs,.rows k' ys=>must (Nat.beq k k') (qON ρ xs ys)
 | .trows e xs,.trows e' ys=>O.trows e xs=.trows e' ys
 | _,_=>False
def bE:List Nat→Bool
 | []=>true
 | i::l=>!fI l i&&bE l
def qGX(ρ:List (Nat×Nat)):Nat→Bool
 | 0=>true
 | n+1=>lI ρ n n&&qGX ρ n
end
section
variable {T:Nat→Type}
def St.bare(st:St T):St T:=⟨st.env,⟨st.hp.h,st.hp.nx,[]⟩⟩
def Alike(st st':St T):Prop:=st'.env.get=st.env.get∧st'.hp.get=st.hp.get∧st'.hp.nx=st.hp.nx
end
section
variable (reg:Reg) (P:Program)
end
section
variable {reg:Reg} {P:Program} {hd:Hd reg.T} {nt:Nat}
def RA(n0:Nat)(F0:Nat→Prop)(φ0:Phi)(H0:Nat→Option (O reg.T))(w0:World)(nt:Nat)(st:St reg.T)(a:Act)(w:World):Prop :=
 ∃N F φ,(∀i,N i→i<st.hp.nx)∧RS [] N F φ nt st a w∧Goes reg F0 φ0 (fun i=>i<n0) H0 w0 F φ N st.hp.get w
theorem RA.go{n0:Nat}{F0:Nat→Prop}{φ0:Phi}{H0:Nat→Option (O reg.T)}{w0:World}{st st':St reg.T}{N F N' F':Nat→Prop}{φ φ':Phi}{a':Act}{w w':World}(hN:∀i,N i→i<st.hp.nx)(hg:Goes reg F0 φ0 (fun i=>i<n0) H0 w0 F φ N st.hp.get w)
  (hR:RS [] N' F' φ' nt st' a' w') (hG:GO N F φ st.hp w N' F' φ' st'.hp w'):RA n0 F0 φ0 H0 w0 nt st' a' w':=by
 refine⟨N',F',φ',fun i hi=>?_,hR,Goes.trans reg hg hG.goes⟩
 have:= hG.grow.1
 rcases hG.names i hi with h | h
 ·have:= hN i h;omega
 ·exact h.2
theorem RA.alike{n0:Nat}{F0:Nat→Prop}{φ0:Phi}{H0:Nat→Option (O reg.T)}{w0:World}{st st':St reg.T}{a:Act}{w:World}(h:RA n0 F0 φ0 H0 w0 nt st a w)(e:Alike st st'):RA n0 F0 φ0 H0 w0 nt st' a w:=by
 obtain⟨N,F,φ,h1,h2,h3⟩:=h
 obtain⟨e1,e2,e3⟩:=e
 refine⟨N,F,φ,by rw[e3];exact h1,?_,by rw[e2];exact h3⟩
 show RF [] N F φ nt ⟨st'.env.get,st'.hp.get⟩ a w
 rw[e1,e2]
 exact h2
theorem RA.bare{n0:Nat}{F0:Nat→Prop}{φ0:Phi}{H0:Nat→Option (O reg.T)}{w0:World}{st:St reg.T}{a:Act}{w:World}(h:RA n0 F0 φ0 H0 w0 nt st a w):RA n0 F0 φ0 H0 w0 nt st.bare a w:=h
theorem qI8{N:Nat→Prop}{n:Nat}(h:∀i,N i→i<n)(m:Nat):bX N n m:=fun i h1 _ h3=>by have:= h i h3;omega
theorem fF{α:Type}:∀{l:List (Nat×α)} {i:Nat} {x:α},aQ l i=some x→(i,x)∈l
 | (k,y)::l,i,x,h=>by
  simp only[aQ] at h
  cases hb:Nat.beq k i with
  | true=>rw[hb] at h;cases h;rw[cz hb];simp
  | false=>rw[hb] at h;exact jg _ (fF h)
theorem iC{α:Type}:∀{l:List (Nat×α)} {t:Tr α},(∀p∈l,Tr.ok p.1=true)→∀{j:Nat} {x:α},(bD l t).get j=some x→(j,x)∈l∨t.get j=some x
 | [],t,_,j,x,h=>.inr h
 | (i,y)::l,t,hk,j,x,h=>by
  simp only[bD] at h
  rw[Tr.dG (hk (i,y) (by simp))] at h
  by_cases hji:j=i
  ·subst hji
   rw[if_pos rfl] at h
   cases h
   exact .inl (by simp)
  ·rw[if_neg hji] at h
   rcases iC (fun p hp=>hk p (by simp[hp])) h with h | h
   ·exact .inl (by simp[h])
   ·exact .inr h
def iT(ρ:List (Nat×Nat))(φ:Phi):Phi:=fun i=>match aQ ρ i with | some j=>φ j | none=>none
theorem qGY{ρ:List (Nat×Nat)}{φ:Phi}{i j:Nat}(h:lI ρ i j=true):iT ρ φ i=φ j:=by
 unfold lI at h
 unfold iT
 split at h
 ·rename_i k hk
  simp only[cz h]
 ·cases h
theorem qJK{F:Nat→Prop}{w:World}{x y:D reg.T}(h:qJJ x y){cv:Value}(hd:dQ reg F w y cv):dQ reg F w x cv:=by
 unfold qJJ at h
 split at h
 ·subst h;exact sZ rfl rfl F w cv hd
 ·subst h;exact sZ rfl rfl F w cv hd
 ·obtain⟨h1,h2⟩:=(aK _ _).1 h
  rw[fV h1,h2];exact hd
 ·subst h;exact hd
 ·subst h;exact hd
 ·subst h;exact hd
theorem jV{F:Nat→Prop}{w:World}{φ:Phi}{ρ:List (Nat×Nat)}{u:V reg.T}{cv:Value}(hu:aA reg F w φ u cv):∀{v},gB ρ v u→aA reg F w (iT ρ φ) v cv∧(u.aP=true→v.aP=true):=by
 have lists:∀{us:List (V reg.T)} {cs:Array Value},(∀j,j<us.length→∀{v},gB ρ v (us.getD j .any)→aA reg F w (iT ρ φ) v (cs.getD j undef)∧((us.getD j .any).aP=true→v.aP=true)) →
   ∀{vs},gB.goL ρ vs us→vs.length=us.length∧∀j,j<vs.length→aA reg F w (iT ρ φ) (vs.getD j .any) (cs.getD j undef):=by
  intro us cs ih vs hvs
  have key:∀(us vs:List (V reg.T)),gB.goL ρ vs us→vs.length=us.length∧∀j,j<vs.length→gB ρ (vs.getD j .any) (us.getD j .any):=by
   intro us
   induction us with
   | nil =>
    intro vs h
    cases vs with
    | nil=>exact⟨rfl,fun j hj=>by simp at hj⟩
    | cons v vs=>exact h.elim
   | cons u us ihu =>
    intro vs h
    cases vs with
    | nil=>exact h.elim
    | cons v vs =>
     obtain⟨h1,h2⟩:=h
     obtain⟨h3,h4⟩:=ihu vs h2
     refine⟨by simp[h3],fun j hj=>?_⟩
     cases j with
     | zero=>exact h1
     | succ j=>exact h4 j (by simpa using hj)
  obtain⟨h1,h2⟩:=key us vs hvs
  exact⟨h1,fun j hj=>(ih j (by omega) (h2 j hj)).1⟩
 induction hu with
 | d y cv hd =>
  intro v h
  cases v<;>simp only[gB] at h<;>first | exact h.elim | exact⟨.d _ _ (qJK h hd),fun _=>rfl⟩
 | ptr j r o b s k z hp =>
  intro v h
  cases v<;>simp only[gB] at h<;>(try exact h.elim)
  obtain⟨h1,h2,h3⟩:=(aK _ _).1 h
  subst h2 h3
  exact⟨.ptr _ _ _ b s k z ((qGY h1).trans hp),fun _=>rfl⟩
 | fp row o a C t fz hF hb hz hr=>intro v h;cases v<;>simp only[gB] at h
 | sl j off len cap b s k z cap' hp hc hl hm hz =>
  intro v h
  cases v<;>simp only[gB] at h<;>(try exact h.elim)
  obtain⟨h1,h2,h3,h4⟩:=(aK _ _).1 h
  subst h2 h3
  refine⟨.sl _ _ _ _ b s k z cap' ((qGY h1).trans hp) ?_ hl hm hz,fun _=>rfl⟩
  rename_i cap0
  cases cap0<;>cases cap<;>simp only[qDv] at h4<;>simp only[pO] at hc ⊢<;>omega
 | slz j off cap base hc hnb =>
  intro v h
  cases v<;>simp only[gB] at h<;>(try exact h.elim)
  obtain⟨h1,h2,h3,h4⟩:=(aK _ _).1 h
  subst h2 h3
  rename_i cap0
  refine⟨.slz _ _ _ base ?_ (fun e=>?_),fun _=>rfl⟩
  ·cases cap0<;>cases cap<;>simp only[qDv] at h4<;>simp only[pO] at hc ⊢<;>omega
  ·have:= hnb e
   cases cap0<;>cases cap<;>simp only[qDv] at h4<;>first | rfl | cases this
 | mp j b s hp=>intro v h;cases v<;>simp only[gB] at h
 | it j b s hp=>intro v h;cases v<;>simp only[gB] at h
 | fn f caps fst cs fs hz _ hz' _ ih ih' =>
  intro v h
  cases v<;>simp only[gB] at h<;>(try exact h.elim)
  obtain⟨h1,h2,h3⟩:=(aK _ _).1 h
  have:= cz h1
  subst this
  obtain⟨a1,a2⟩:=lists ih h2
  obtain⟨b1,b2⟩:=lists ih' h3
  exact⟨.fn _ _ _ cs fs (by omega) a2 (by omega) b2,fun _=>rfl⟩
 | agg us cs hz _ ih =>
  intro v h
  cases v<;>simp only[gB] at h<;>(try exact h.elim)
  obtain⟨a1,a2⟩:=lists ih h
  exact⟨.agg _ cs (by omega) a2,fun h=>by simp[V.aP] at h⟩
 | tup us cs hz _ ih =>
  intro v h
  cases v<;>simp only[gB] at h<;>(try exact h.elim)
  obtain⟨a1,a2⟩:=lists ih h
  exact⟨.tup _ cs (by omega) a2,fun h=>by simp[V.aP] at h⟩
 | ifc t v cv _ _=>intro v h;cases v<;>simp only[gB] at h
 | undef=>intro v h;cases v<;>simp only[gB] at h<;>first | exact h.elim | exact⟨.undef,fun h=>h⟩
 | any cv=>intro v h;cases v<;>simp only[gB] at h
theorem wR{ρ:List (Nat×Nat)}:∀{us vs:List (V reg.T)},gB.goL ρ vs us→vs.length=us.length∧∀j,j<vs.length→gB ρ (vs.getD j .any) (us.getD j .any)
 | [],[],_=>⟨rfl,fun j hj=>by simp at hj⟩
 | [],v::vs,h=>h.elim
 | u::us,[],h=>h.elim
 | u::us,v::vs,⟨h1,h2⟩=>by
  obtain⟨h3,h4⟩:=wR h2
  refine⟨by simp[h3],fun j hj=>?_⟩
  cases j with
  | zero=>exact h1
  | succ j=>exact h4 j (by simpa using hj)
theorem qEt{ρ:List (Nat×Nat)}:∀{ss rs:List (List (V reg.T))},qON ρ rs ss→rs.length=ss.length∧∀r,r<rs.length→gB.goL ρ (rs.getD r []) (ss.getD r [])
 | [],[],_=>⟨rfl,fun j hj=>by simp at hj⟩
 | [],v::vs,h=>h.elim
 | u::us,[],h=>h.elim
 | u::us,v::vs,⟨h1,h2⟩=>by
  obtain⟨h3,h4⟩:=qEt h2
  refine⟨by simp[h3],fun j hj=>?_⟩
  cases j with
  | zero=>exact h1
  | succ j=>exact h4 j (by simpa using hj)
theorem qEu{F:Nat→Prop}{w:World}{φ:Phi}{ρ:List (Nat×Nat)}{i j:Nat}{o u:O reg.T}(hij:aQ ρ i=some j)(h:qI7 ρ o u)(hu:eZ reg F w φ j u):eZ reg F w (iT ρ φ) i o:=by
 have hp:iT ρ φ i=φ j:=by unfold iT;rw[hij]
 cases o with
 | rows k xs =>
  cases u with
  | rows k' ys =>
   obtain⟨hk,hR⟩:=(aK _ _).1 h
   have:= cz hk
   subst this
   obtain⟨hl,hr⟩:=qEt hR
   obtain⟨_,hu⟩:=hu.rows reg rfl
   refine .inl ⟨rfl,?_⟩
   rcases hu with⟨h1,h2⟩ | ⟨b,s,C,t,fz,h1,h2,h3,h4⟩
   ·exact .inl ⟨by simp only[O.len] at h1 ⊢;omega,hp.trans h2⟩
   ·have hlist:∀r,r<xs.length→((xs.getD r []).length=(ys.getD r []).length)∧∀c,c<(xs.getD r []).length→gB ρ ((xs.getD r []).getD c .any) ((ys.getD r []).getD c .any):=fun r hr'=>wR (hr r hr')
    refine .inr ⟨b,s,C,t,fz,hp.trans h1,h2,h3,⟨?_,?_,⟨fun r hr=>?_,fun r c hr hc=>?_,fun r c hr hc=>?_⟩⟩⟩
    ·have:= h4.size;simp only[O.len,O.k,hl] at this ⊢;exact this
    ·have:= h4.len;simp only[O.len,hl] at this ⊢;exact this
    ·simp only[O.len] at hr
     have:= h4.at_.wid r (by simp only[O.len];omega)
     simp only[O.row,O.k] at this ⊢
     rw[(hlist r hr).1,this]
    ·simp only[O.len,O.k] at hr hc
     have hw:=h4.at_.wid r (by simp only[O.len];omega)
     simp only[O.row,O.k] at hw ⊢
     exact(jV (h4.at_.rel r c (by simp only[O.len];omega) hc) ((hlist r hr).2 c (by rw[(hlist r hr).1,hw];exact hc))).2 (h4.at_.aP r c (by simp only[O.len];omega) hc)
    ·simp only[O.len,O.k] at hr hc
     have hw:=h4.at_.wid r (by simp only[O.len];omega)
     simp only[O.row,O.k] at hw ⊢
     exact(jV (h4.at_.rel r c (by simp only[O.len];omega) hc) ((hlist r hr).2 c (by rw[(hlist r hr).1,hw];exact hc))).1
  | trows e ys=>exact h.elim
  | map c es=>exact h.elim
  | sit s p=>exact h.elim
  | mit m a b c=>exact h.elim
 | trows e xs =>
  cases u with
  | rows k' ys=>exact h.elim
  | map c es=>exact h.elim
  | sit s p=>exact h.elim
  | mit m a b c=>exact h.elim
  | trows e' ys =>
   have h:O.trows e xs=.trows e' ys:=h
   rw[h]
   obtain⟨h0,hu⟩:=hu.rows reg rfl
   refine .inl ⟨h0,?_⟩
   rcases hu with⟨h1,h2⟩ | ⟨b,s,C,t,fz,h1,h2,h3,h4⟩
   ·exact .inl ⟨h1,hp.trans h2⟩
   ·refine .inr ⟨b,s,C,t,fz,hp.trans h1,h2,h3,⟨h4.size,h4.len,⟨h4.at_.wid,h4.at_.aP,fun r c hr hc=>?_⟩⟩⟩
    have h5:=h4.at_.rel r c hr hc
    have hw:=h4.at_.wid r hr
    have hd:∃x,((O.trows e' ys).row reg r).getD c .any=.d x:=by
     simp only[O.row,O.k] at hw hc ⊢
     rw[iq] at hw
     exact⟨_,iY _ _ (by omega)⟩
    obtain⟨x,hx⟩:=hd
    rw[hx] at h5 ⊢
    exact .d _ _ h5.qEo
 | map c es=>exact h.elim
 | sit s p=>exact h.elim
 | mit m a b c=>exact h.elim
theorem zZ:∀{l:List (Nat×Nat)},bE (l.map (·.2))=true→∀{i j k:Nat},(i,k)∈l→(j,k)∈l→i=j
 | (a,b)::l,h,i,j,k,hi,hj=>by
  simp only[kv,bE,bu,jv] at h
  have hn:∀x,(x,b) ∉ l:=fun x hx=>by
   have: fI (l.map (·.2)) b=true:=bZ.2 (fq.2 ⟨(x,b),hx,rfl⟩)
   rw[h.1] at this;cases this
  rcases fu.1 hi with hi | hi<;>rcases fu.1 hj with hj | hj
  ·cases hi;cases hj;rfl
  ·cases hi;exact(hn _ hj).elim
  ·cases hj;exact(hn _ hi).elim
  ·exact zZ h.2 hi hj
theorem qC0{ρ:List (Nat×Nat)}:∀{n:Nat},qGX ρ n=true→∀{j},j<n→aQ ρ j=some j
 | n+1,h,j,hj=>by
  simp only[qGX,bu] at h
  by_cases e:j=n
  ·subst e
   have h1:=h.1
   unfold lI at h1
   split at h1
   ·rename_i k hk;rw[hk,cz h1]
   ·cases h1
  ·exact qC0 h.2 (by omega)
end
end Go.W
namespace Go.W
open Go Go.RowKit Go.ChangeShapes Go.WideShapes Go.ChangeAt
theorem qBZ{H:Type}{enc:TypeId×Value→H}{P:Program}(hl:laidOutB P=true){W W':World}(hb:Below W.heap.size W W'):∀{ts:List TypeId} {vs:List Value} {ds:List (DataW H)} {ps:List MemPlace},
  (∀t∈ts,P.readableRec t=true∧t<P.types.size)→DataW.TrodAll enc P W 0 (fun _=>true) true ts vs ds ps→(∀x∈ps,x.block<W.heap.size)→DataW.TrodAll enc P W' 0 (fun b=>decide (b<W.heap.size)) true ts vs ds ps:=by
 intro ts
 induction ts with
 | nil =>
  intro vs ds ps _ h _
  obtain⟨rfl,rfl,rfl⟩:=trodAll_nil h
  exact trodAll_mk0
 | cons t ts ih =>
  intro vs ds ps hr h hlt
  obtain⟨v,vs',d,ds',p,q,rfl,rfl,rfl,h1,h2⟩:=trodAll_cons h
  obtain⟨r1,r2⟩:=hr t (by simp)
  exact⟨p,q,Below.trod hl r1 r2 h1 hb (fun x hx=>hlt x (by simp[hx])),ih (fun t' ht'=>hr t' (by simp[ht'])) h2 (fun x hx=>hlt x (by simp[hx])),rfl⟩
section
variable (reg:Reg) (P:Program)
def qAX:Nat→List Field→Nat→Bool
 | off,[],n=>Nat.beq off n
 | off,f::fs,n=>Nat.beq f.offset off&&qAX (off+P.cellsOf f.type) fs n
def qAY:Nat→TypeId→Bool
 | 0,_=>false
 | n+1,t=>(match P.underlying t with
  | some .bool=>true
  | some (.int _)=>true
  | some .string=>true
  | some (.struct fs)=>qAX P 0 fs.toList (P.cellsOf t)&&fs.toList.all fun f=>qAY n f.type
  | some (.slice e)=>qAY n e&&Nat.beq (reg.k e) (P.cellsOf e)&&!Nat.beq (P.cellsOf e) 0
  | _=>false)
def rH{D:Type}(R:TypeId→List D→Prop):List Field→List D→Prop
 | [],vs=>vs=[]
 | f::fs,vs=>∃a b,vs=a++b∧R f.type a∧rH R fs b
def WT:Nat→TypeId→List (D reg.T)→Prop
 | 0,_,_=>False
 | n+1,t,vs=>(match P.underlying t with
  | some .bool=>∃b,vs=[.bool b]
  | some (.int k)=>∃m,vs=[.int k m]∧(Lit.int k m).wf=true
  | some .string=>∃s,vs=[.str s]∧s.length≤9223372036854775807
  | some (.struct fs)=>rH (WT n) fs.toList vs
  | some (.slice e)=>∃xs:List (reg.T e),vs=[.sl e xs]∧xs.length≤9223372036854775807∧∀x∈xs,WT n e (reg.enc e x)
  | _=>False)
variable {reg P}
theorem qM2{α:Type}{p:Nat→α→Prop}:∀n,(∀i,i<n→∃x,p i x)→∃xs:List α,xs.length=n∧∀(i:Nat) (x:α),xs[i]? = some x→p i x:=by
 intro n
 induction n with
 | zero=>intro _;exact⟨[],rfl,fun i x h=>by simp at h⟩
 | succ n ih =>
  intro h
  obtain⟨xs,h1,h2⟩:=ih (fun i hi=>h i (by omega))
  obtain⟨x,hx⟩:=h n (by omega)
  refine⟨xs++[x],by simp[h1],fun i y hy=>?_⟩
  rcases ja i xs.length with hlt | hge
  ·rw[j4 hlt] at hy;exact h2 i y hy
  ·rw[iw hge] at hy
   have: i=n:=by
    rcases lg (i-xs.length) with h | h
    ·omega
    ·rw[l7 (by simp;omega)] at hy;simp at hy
   subst this
   have e:i-xs.length=0:=by omega
   rw[e] at hy
   simp at hy
   subst hy
   exact hx
theorem qFP{w:World}{base:Nat}{a:Addr}{n:Nat}{row:List Value}(h:w.cells? base a n=some row):row.length=n∧∀j,j<n→w.cell? (a.add j)=some (row.getD j undef):=by
 unfold World.cells? at h
 split at h
 ·have hl:∀(l:List Nat) (r:List Value),l.mapM (fun i=>w.cell? (a.add i))=some r→r.length=l.length∧∀j,j<l.length→w.cell? (a.add (l.getD j 0))=some (r.getD j undef):=by
   intro l
   induction l with
   | nil=>intro r h;simp at h;subst h;exact⟨rfl,fun j hj=>by simp at hj⟩
   | cons x l ih =>
    intro r h
    rw[qy] at h
    cases h1:w.cell? (a.add x) with
    | none=>simp[h1] at h
    | some v =>
     cases h2:l.mapM (fun i=>w.cell? (a.add i)) with
     | none=>simp[h1,h2] at h
     | some r' =>
      simp[h1,h2] at h
      subst h
      obtain⟨g1,g2⟩:=ih r' h2
      refine⟨by simp[g1],fun j hj=>?_⟩
      cases j with
      | zero=>simpa using h1
      | succ j=>simpa using g2 j (by simpa using hj)
  obtain⟨g1,g2⟩:=hl _ _ h
  simp only[List.length_range] at g1 g2
  refine⟨g1,fun j hj=>?_⟩
  have:= g2 j hj
  rwa [show(List.range n).getD j 0=j by simp[List.getD,hj]] at this
 ·simp at h
theorem qEv{α β:Type}{f:α→Option β}:∀{l:List α} {r:List β},l.mapM f=some r→r.length=l.length∧∀(i:Nat) x,l[i]? = some x→∃y,r[i]? = some y∧f x=some y:=by
 intro l
 induction l with
 | nil=>intro r h;simp at h;subst h;exact⟨rfl,fun i x hx=>by simp at hx⟩
 | cons a l ih =>
  intro r h
  rw[qy] at h
  cases h1:f a with
  | none=>simp[h1] at h
  | some v =>
   cases h2:l.mapM f with
   | none=>simp[h1,h2] at h
   | some r' =>
    simp[h1,h2] at h
    subst h
    obtain⟨g1,g2⟩:=ih h2
    refine⟨by simp[g1],fun i x hx=>?_⟩
    cases i with
    | zero=>simp at hx;subst hx;exact⟨v,by simp,h1⟩
    | succ i=>simpa using g2 i x (by simpa using hx)
theorem qJL:∀(l:List Field) (off n:Nat),qAX P off l n=true→off≤n:=by
 intro l
 induction l with
 | nil=>intro off n h;have:= cz h;omega
 | cons f l ih =>
  intro off n h
  simp only[qAX,bu] at h
  have:= ih _ _ h.2
  omega
theorem qOO{H:Type}{enc:TypeId×Value→H}{w:World}{F:Nat→Prop}(hF:∀b,b<w.heap.size→F b)(htot:∀n e vs,reg.k e=P.cellsOf e→P.cellsOf e≠0→WT reg P n e vs→∃x,reg.enc e x=vs) :
  ∀(n fuel:Nat) (t:TypeId) (cs:List Value) (d:DataW H) (ps:List MemPlace),qAY reg P n t=true→DataW.trod enc P w 0 (fun _=>true) true fuel t cs=some (d,ps) →
   ∃vs:List (D reg.T),vs.length=cs.length∧(∀j,j<vs.length→dQ reg F w (vs.getD j .nilp) (cs.getD j undef))∧WT reg P n t vs:=by
 intro n
 induction n with
 | zero=>intro fuel t cs d ps h;simp[qAY] at h
 | succ n ih =>
  intro fuel t cs d ps hc h
  cases fuel with
  | zero=>simp[DataW.trod] at h
  | succ fuel =>
   have one:∀(x:D reg.T) (v:Value),dQ reg F w x v→∀j,j<[x].length→dQ reg F w ([x].getD j .nilp) ([v].getD j undef):=by
    intro x v hx j hj
    have: j=0:=by simpa using hj
    subst this
    simpa using hx
   simp only[qAY] at hc
   simp only[WT]
   cases hu:P.underlying t with
   | none=>rw[hu] at hc;simp at hc
   | some ty =>
    rw[hu] at hc
    cases ty with
    | bool =>
     rcases cs with _ | ⟨c,_ | ⟨c',rest⟩⟩
     ·simp[DataW.trod,hu] at h
     ·cases c<;>simp[DataW.trod,hu] at h
      rename_i b
      exact⟨[.bool b],rfl,one _ _ (.bool b),b,rfl⟩
     ·simp[DataW.trod,hu] at h
    | int k =>
     rcases cs with _ | ⟨c,_ | ⟨c',rest⟩⟩
     ·simp[DataW.trod,hu] at h
     ·cases c<;>simp[DataW.trod,hu] at h
      rename_i k' m
      obtain⟨⟨rfl,hwf⟩,_⟩:=h
      exact⟨[.int k' m],rfl,one _ _ (.int k' m),m,rfl,hwf⟩
     ·simp[DataW.trod,hu] at h
    | string =>
     unfold DataW.trod at h
     rw[hu] at h
     rcases cs with _ | ⟨c,_ | ⟨c',rest⟩⟩
     ·cases h
     ·cases c with
      | string b =>
       replace h:(if b.size≤maxLen then some (DataW.lit (.string b.data.toList),[]) else none)=some (d,ps):=h
       split at h
       ·rename_i hb
        refine⟨[.str b.data.toList],rfl,one _ _ (by have:= dQ.str (reg:=reg) (F:=F) (w:=w) b.data.toList;rw[lh] at this;exact this),_,rfl,?_⟩
        unfold maxLen at hb
        have e:b.data.toList.length=b.size:=by rw[kz];rfl
        rw[e];exact hb
       ·cases h
      | _=>cases h
     ·simp at h
    | struct fs =>
     simp only[bu] at hc
     obtain⟨hcont,hall⟩:=hc
     have h':(if cs.length=P.cellsOf t then(fs.toList.mapM fun f=>DataW.trod enc P w 0 (fun _=>true) true fuel f.type ((cs.drop f.offset).take (P.cellsOf f.type))).map fun xs=>(DataW.agg (xs.map (·.1)),xs.flatMap (·.2)) else none)=some (d,ps):=by
      rw[←h]
      simp only[DataW.trod,hu]
     split at h'
     ·rename_i hlen
      cases hm:fs.toList.mapM (fun f=>DataW.trod enc P w 0 (fun _=>true) true fuel f.type ((cs.drop f.offset).take (P.cellsOf f.type))) with
      | none=>simp[hm] at h'
      | some xs =>
       obtain⟨_,hget⟩:=qEv hm
       have go:∀(l:List Field) (off:Nat),qAX P off l (P.cellsOf t)=true→l.all (fun f=>qAY reg P n f.type)=true →
         (∀f∈l,∃y,DataW.trod enc P w 0 (fun _=>true) true fuel f.type ((cs.drop f.offset).take (P.cellsOf f.type))=some y) →
         ∃vs:List (D reg.T),vs.length=(cs.drop off).length∧(∀j,j<vs.length→dQ reg F w (vs.getD j .nilp) ((cs.drop off).getD j undef))∧rH (WT reg P n) l vs:=by
        intro l
        induction l with
        | nil =>
         intro off hc _ _
         simp only[qAX] at hc
         have:= cz hc
         subst this
         refine⟨[],by simp;omega,fun j hj=>by simp at hj,rfl⟩
        | cons f l ihl =>
         intro off hc ha hf
         simp only[qAX,bu] at hc
         have hoff:=cz hc.1
         simp only[ow,bu] at ha
         obtain⟨y,hy⟩:=hf f (by simp)
         obtain⟨d',ps'⟩:=y
         rw[hoff] at hy
         obtain⟨va,h1,h2,h3⟩:=ih fuel f.type _ d' ps' ha.1 hy
         obtain⟨vb,h4,h5,h6⟩:=ihl (off+P.cellsOf f.type) hc.2 ha.2 (fun f' hf'=>hf f' (by simp[hf']))
         simp only[il,ko] at h1 h4
         have hle:=qJL l _ _ hc.2
         have e1:va.length=P.cellsOf f.type:=by omega
         refine⟨va++vb,by simp;omega,fun j hj=>?_,va,vb,rfl,h3,h6⟩
         rcases ja j va.length with hlt | hge
         ·have g:=h2 j hlt
          have e2:(va++vb).getD j .nilp=va.getD j .nilp:=by simp only[List.getD,j4 hlt]
          have e3:((cs.drop off).take (P.cellsOf f.type)).getD j undef=(cs.drop off).getD j undef:=by simp only[List.getD,gy];rw[if_pos (by omega)]
          rw[e2,←e3]
          exact g
         ·have g:=h5 (j-va.length) (by simp at hj;omega)
          have e2:(va++vb).getD j .nilp=vb.getD (j-va.length) .nilp:=by simp only[List.getD,iw hge]
          have e3:(cs.drop (off+P.cellsOf f.type)).getD (j-va.length) undef=(cs.drop off).getD j undef:=by
           simp only[List.getD,ic]
           congr 2
           omega
          rw[e2,←e3]
          exact g
       obtain⟨vs,h1,h2,h3⟩:=go fs.toList 0 hcont hall (fun f hf=>by
        obtain⟨i,hi⟩:=qf.1 hf
        obtain⟨y,_,hy⟩:=hget i f hi
        exact⟨y,hy⟩)
       exact⟨vs,by simpa using h1,by simpa using h2,h3⟩
     ·simp at h'
    | slice e =>
     simp only[bu,jv] at hc
     obtain⟨⟨hce,hk⟩,hk0⟩:=hc
     have hk:=cz hk
     have hk0:P.cellsOf e≠0:=fun e'=>by rw[e'] at hk0;simp[jq] at hk0
     rcases cs with _ | ⟨c,_ | ⟨c',rest⟩⟩
     ·simp[DataW.trod,hu] at h
     ·cases c<;>(try (simp[DataW.trod,hu] at h;done))
      rename_i base len cap
      cases base with
      | none =>
       have: len=0:=by
        cases len with
        | zero=>rfl
        | succ n=>simp[DataW.trod,hu] at h
       subst this
       exact⟨[.sl e []],rfl,one _ _ (.emp (.sl e []) rfl rfl none cap),[],rfl,by simp,fun x hx=>by simp at hx⟩
      | some a =>
       simp only[DataW.trod,hu] at h
       split at h
       ·rename_i hb
        obtain⟨_,hlc,hcm⟩:=hb
        cases hm:(List.range len).mapM (fun i=>(w.cells? 0 (a.add (i*P.cellsOf e)) (P.cellsOf e)).bind (DataW.trod enc P w 0 (fun _=>true) true fuel e)) with
        | none=>rw[hm] at h;simp at h
        | some elems =>
         obtain⟨_,hget⟩:=qEv hm
         unfold maxLen at hcm
         have hrow:∀i,i<len→∃x:reg.T e,∃row:List Value,row.length=P.cellsOf e∧(∀j,j<P.cellsOf e→w.cell? ((a.add (i*P.cellsOf e)).add j)=some (row.getD j undef)) ∧
           (∀j,j<(reg.enc e x).length→dQ reg F w ((reg.enc e x).getD j .nilp) (row.getD j undef))∧(reg.enc e x).length=row.length∧WT reg P n e (reg.enc e x):=by
          intro i hi
          obtain⟨y,_,hy⟩:=hget i i (by simp[hi])
          cases hcl:w.cells? 0 (a.add (i*P.cellsOf e)) (P.cellsOf e) with
          | none=>rw[hcl] at hy;simp at hy
          | some row =>
           rw[hcl] at hy
           simp only[Option.bind_some] at hy
           obtain⟨g1,g2⟩:=qFP hcl
           obtain⟨d',ps'⟩:=y
           obtain⟨vs,h1,h2,h3⟩:=ih fuel e row d' ps' hce hy
           obtain⟨x,rfl⟩:=htot n e vs hk hk0 h3
           exact⟨x,row,g1,g2,h2,h1,h3⟩
         obtain⟨xs,hxl,hxs⟩:=qM2 len hrow
         refine⟨[.sl e xs],rfl,one _ _ ?_,xs,rfl,by omega,fun x hx=>?_⟩
         ·cases hln:len with
          | zero =>
           have: xs=[]:=List.length_eq_zero_iff.1 (by omega)
           subst this
           exact .emp (.sl e []) rfl rfl _ _
          | succ m =>
           have hcell:∀i,i<len→∀j,j<P.cellsOf e→∃v,w.cell? ((a.add (i*P.cellsOf e)).add j)=some v:=by
            intro i hi j hj
            obtain⟨x,row,_,g2,_⟩:=hrow i hi
            exact⟨_,g2 j hj⟩
           obtain⟨v0,hv0⟩:=hcell 0 (by omega) 0 (by omega)
           have ha0:(a.add (0*P.cellsOf e)).add 0=a:=by simp[Addr.add]
           rw[ha0] at hv0
           obtain⟨blk,off,spot⟩:=a
           unfold World.cell? at hv0
           split at hv0
           ·rename_i C ty fz hblk
            simp only at hblk hv0
            cases spot with
            | some _=>simp at hv0
            | none =>
             have hadd:∀i j,((⟨blk,off,none⟩:Addr).add (i*P.cellsOf e)).add j=⟨blk,off+i*P.cellsOf e+j,none⟩:=by intro i j;rw[addr_add,addr_add]
             have hC:∀i,i<len→∀j,j<P.cellsOf e→off+i*P.cellsOf e+j<C.size:=by
              intro i hi j hj
              obtain⟨v,hv⟩:=hcell i hi j hj
              rw[hadd,cell_of_heap hblk] at hv
              exact(je.1 hv).1
             have hlt:blk<w.heap.size:=(je.1 hblk).1
             rw[←hln]
             have hk':(D.sl (T:=reg.T) e xs).k reg 0=P.cellsOf e:=hk
             have hrow':∀r,r<len→∃row:List Value,row.length=P.cellsOf e∧(∀j,j<P.cellsOf e→w.cell? (((⟨blk,off,none⟩:Addr).add (r*P.cellsOf e)).add j)=some (row.getD j undef)) ∧
               (∀j,j<((D.sl (T:=reg.T) e xs).row reg r).length→dQ reg F w (((D.sl (T:=reg.T) e xs).row reg r).getD j .nilp) (row.getD j undef))∧((D.sl (T:=reg.T) e xs).row reg r).length=row.length:=by
              intro r hr
              have hr':r<xs.length:=by omega
              obtain⟨row,g1,g2,g3,g4,_⟩:=hxs r xs[r] (gu hr')
              have e1:(D.sl (T:=reg.T) e xs).row reg r=reg.enc e xs[r]:=by simp[D.row,List.getD,hr']
              rw[e1]
              exact⟨row,g1,g2,g3,g4⟩
             refine .sl (.sl e xs) len ⟨blk,off,none⟩ cap C ty fz rfl (by simp[D.len?,hxl]) (hF _ hlt) hblk rfl (by omega) (by omega) ?_ (fun r hr=>?_) (fun r j hr hj=>?_)
             ·rw[hk']
              have:= hC (len-1) (by omega) (P.cellsOf e-1) (by omega)
              have e1:len*P.cellsOf e=(len-1)*P.cellsOf e+P.cellsOf e:=by
               rw[hln]
               simp[j3]
              simp only
              omega
             ·rw[hk']
              obtain⟨row,g1,_,_,g4⟩:=hrow' r hr
              omega
             ·rw[hk'] at hj ⊢
              obtain⟨row,g1,g2,g3,g4⟩:=hrow' r hr
              have g:=g2 j hj
              rw[hadd,cell_of_heap hblk] at g
              have e2:C.getD (off+r*P.cellsOf e+j) undef=row.getD j undef:=by simp[dz,g]
              simp only
              rw[e2]
              exact g3 j (by omega)
           ·simp at hv0
         ·obtain⟨i,hi⟩:=qf.1 hx
          obtain⟨row,_,_,_,_,g5⟩:=hxs i x hi
          exact g5
       ·simp at h
     ·simp[DataW.trod,hu] at h
    | _=>simp at hc
end
section
variable (reg:Reg) (P:Program)
def qFQ(t:TypeId)(vs:List (D reg.T)):V reg.T:=match dZ P t with | true=>.agg (vs.map .d) | false=>.d (vs.getD 0 .nilp)
def yP(n:Nat):List TypeId→List (V reg.T)→Prop
 | [],vs=>vs=[]
 | t::ts,vs=>∃ds rest,vs=qFQ reg P t ds::rest∧WT reg P n t ds∧yP n ts rest
inductive Sh where
 | b
 | i (k:IntKind)
 | s
 | l (e:TypeId)
def qM3:Nat→TypeId→List Sh
 | 0,_=>[]
 | n+1,t=>(match P.underlying t with
  | some .bool=>[.b]
  | some (.int k)=>[.i k]
  | some .string=>[.s]
  | some (.struct fs)=>fs.toList.flatMap fun f=>qM3 n f.type
  | some (.slice e)=>[.l e]
  | _=>[])
def WS:List Sh→List (D reg.T)→Prop
 | [],vs=>vs=[]
 | .b::r,vs=>∃x t,vs=.bool x::t∧WS r t
 | .i k::r,vs=>∃x t,vs=.int k x::t∧(Lit.int k x).wf=true∧WS r t
 | .s::r,vs=>∃x t,vs=.str x::t∧x.length≤9223372036854775807∧WS r t
 | .l e::r,vs=>∃(x:List (reg.T e)) (t:List (D reg.T)),vs=.sl e x::t∧x.length≤9223372036854775807∧(∃n,∀y∈x,WT reg P n e (reg.enc e y))∧WS r t
variable {reg P}
theorem WS.append:∀{a b:List Sh} {vs us:List (D reg.T)},WS reg P a vs→WS reg P b us→WS reg P (a++b) (vs++us):=by
 intro a
 induction a with
 | nil=>intro b vs us h h';cases h;exact h'
 | cons x a ih =>
  intro b vs us h h'
  cases x with
  | b=>obtain⟨y,t,rfl,h2⟩:=h;exact⟨y,t++us,rfl,ih h2 h'⟩
  | i k=>obtain⟨y,t,rfl,h1,h2⟩:=h;exact⟨y,t++us,rfl,h1,ih h2 h'⟩
  | s=>obtain⟨y,t,rfl,h1,h2⟩:=h;exact⟨y,t++us,rfl,h1,ih h2 h'⟩
  | l e=>obtain⟨y,t,rfl,h1,h3,h2⟩:=h;exact⟨y,t++us,rfl,h1,h3,ih h2 h'⟩
theorem WT.flat:∀{n:Nat} {t:TypeId} {vs:List (D reg.T)},WT reg P n t vs→WS reg P (qM3 P n t) vs:=by
 intro n
 induction n with
 | zero=>intro t vs h;exact h.elim
 | succ n ih =>
  intro t vs h
  simp only[WT] at h
  simp only[qM3]
  cases hu:P.underlying t with
  | none=>rw[hu] at h;exact h.elim
  | some ty =>
   rw[hu] at h
   cases ty with
   | bool=>obtain⟨b,rfl⟩:=h;exact⟨b,[],rfl,rfl⟩
   | int k=>obtain⟨m,rfl,h1⟩:=h;exact⟨m,[],rfl,h1,rfl⟩
   | string=>obtain⟨m,rfl,h1⟩:=h;exact⟨m,[],rfl,h1,rfl⟩
   | slice e=>obtain⟨m,rfl,h1,h2⟩:=h;exact⟨m,[],rfl,h1,⟨n,h2⟩,rfl⟩
   | struct fs =>
    simp only at h ⊢
    generalize fs.toList=l at h
    induction l generalizing vs with
    | nil=>cases h;exact rfl
    | cons f l ihl =>
     obtain⟨a,b,rfl,h1,h2⟩:=h
     rw[ib]
     exact WS.append (ih h1) (ihl h2)
   | _=>exact h.elim
theorem qEw{w:World}{r:Reach}{base:Nat}{n:Nat}{t:TypeId}{v:Value}(hc:qAY reg P n t=true)(h:Value.okWide P w r base t v) :
  (dZ P t=true∧∃cs,v=.agg cs)∨(dZ P t=false∧v.cells = #[v]):=by
 cases n with
 | zero=>simp[qAY] at hc
 | succ n =>
  simp only[qAY] at hc
  cases hu:P.underlying t with
  | none=>rw[hu] at hc;simp at hc
  | some ty =>
   rw[hu] at hc
   cases ty with
   | struct fs =>
    obtain⟨cs,h1,_⟩:=okWide_struct hu h
    exact .inl ⟨by simp[dZ,hu],cs,h1⟩
   | bool =>
    refine .inr ⟨by simp[dZ,hu],?_⟩
    simp only[Value.okWide,hu,Cell.okWide] at h
    cases v<;>simp_all [Cell.ok,Value.cells]
   | int k =>
    refine .inr ⟨by simp[dZ,hu],?_⟩
    simp only[Value.okWide,hu,Cell.okWide] at h
    cases v<;>simp_all [Cell.ok,Value.cells]
   | string =>
    refine .inr ⟨by simp[dZ,hu],?_⟩
    simp only[Value.okWide,hu,Cell.okWide] at h
    cases v<;>simp_all [Cell.ok,Value.cells]
   | slice e =>
    refine .inr ⟨by simp[dZ,hu],?_⟩
    simp only[Value.okWide,hu,Cell.okWide] at h
    cases v<;>simp_all [Cell.ok,Value.cells]
   | _=>simp at hc
theorem aA.of_cells{F:Nat→Prop}{w:World}{φ:Phi}{t:TypeId}{v:Value}{vs:List (D reg.T)}(hf:(dZ P t=true∧∃cs,v=.agg cs)∨(dZ P t=false∧v.cells = #[v]))
  (hl:vs.length=v.cells.toList.length) (h:∀j,j<vs.length→dQ reg F w (vs.getD j .nilp) (v.cells.toList.getD j Go.undef)):aA reg F w φ (qFQ reg P t vs) v:=by
 rcases hf with⟨ha,cs,rfl⟩ | ⟨ha,hv⟩
 ·simp only[qFQ,ha]
  simp only[Value.cells] at hl h
  refine .agg _ cs (by simpa using hl) (fun j hj=>?_)
  have hj':j<vs.length:=by simpa using hj
  have e:(vs.map V.d).getD j .any=.d (vs.getD j .nilp):=by simp[List.getD,mg,gu hj']
  rw[e,←fU]
  exact .d _ _ (h j hj')
 ·simp only[qFQ,ha]
  rw[hv] at hl h
  exact .d _ _ (by simpa using h 0 (by simp at hl;omega))
theorem qJM{H:Type}{enc:TypeId×Value→H}{w:World}{base:Nat}{F:Nat→Prop}{φ:Phi}(hF:∀b,b<w.heap.size→F b)(htot:∀n e vs,reg.k e=P.cellsOf e→P.cellsOf e≠0→WT reg P n e vs→∃x,reg.enc e x=vs){n:Nat} :
  ∀{ts:List TypeId} {args:List Value} {ds:List (DataW H)} {ps:List MemPlace},(∀t∈ts,qAY reg P n t=true)→(∀(j:Nat) t v,ts[j]? = some t→args[j]? = some v→Value.okWide P w .any base t v) →
   DataW.TrodAll enc P w 0 (fun _=>true) true ts args ds ps →
   ∃vs:List (V reg.T),yP reg P n ts vs∧vs.length=args.length∧∀j,j<vs.length→aA reg F w φ (vs.getD j .any) (args.getD j undef):=by
 intro ts
 induction ts with
 | nil =>
  intro args ds ps _ _ h
  obtain⟨rfl,_,_⟩:=trodAll_nil h
  exact⟨[],rfl,rfl,fun j hj=>by simp at hj⟩
 | cons t ts ih =>
  intro args ds ps hc hok h
  obtain⟨v,vs',d,ds',p,q,rfl,rfl,rfl,h1,h2⟩:=trodAll_cons h
  obtain⟨us,g1,g2,g4⟩:=ih (fun t' ht'=>hc t' (by simp[ht'])) (fun j t' v' ht hv=>hok (j+1) t' v' (by simpa using ht) (by simpa using hv)) h2
  obtain⟨fuel,hf⟩:=h1
  obtain⟨xs,k1,k2,k3⟩:=qOO hF htot n fuel t _ d p (hc t (by simp)) hf
  have hfl:=qEw (hc t (by simp)) (hok 0 t v (by simp) (by simp))
  refine⟨qFQ reg P t xs::us,⟨xs,us,rfl,k3,g1⟩,by simp[g2],fun j hj=>?_⟩
  cases j with
  | zero=>exact aA.of_cells hfl k1 k2
  | succ j=>simpa using g4 j (by simpa using hj)
def yes{T:Nat→Type}(v:V T):Prop:=match v with
 | .d (.bool b)=>b=true
 | _=>False
theorem qAZ{T:Nat→Type}{v:V T}(h:yes v):v=.d (.bool true):=by
 unfold yes at h
 split at h
 ·rw[h]
 ·exact h.elim
end
end Go.W
