/- Part of the proof: texts Vb. No conditions. -/
import Derived.Test.YtclpnndkhbnaoaaGreatDoorVa
import Derived.Lib.ConvBytes
import Derived.Laws.BytesString
import Derived.MapKept
import Derived.Laws.StructEq
import Derived.ControlIn
import Derived.OrdersIn
set_option linter.all false
namespace Go.W
open Go Go.RowKit
section
variable {reg:Reg} {P:Program} {N F:Nat→Prop} {φ:Phi} {h:Hp reg.T} {w:World}
theorem qJ2{t tx ty:TypeId}{a b:V reg.T}{ca cb:Value}{Q:V reg.T×Hp reg.T→Prop}(hH:HR N F φ h w)(hk:zU P tx)(hq:(qJt P t a b h).K Q)(ha:aA reg F w φ a ca)(hb:aA reg F w φ b cb) :
  iZ P N F φ h w (Builtin.copy_ #[t,tx] ty #[ca,cb]) Q:=by
 unfold qJt at hq
 split at hq
 ·exact hq.elim
 rename_i e ht
 have ht:=bO ht
 split at hq
 ·exact hq.elim
 rename_i p0 n ys hs0
 have hp0:=(Out.aO.1 hq).1
 replace hq:=(Out.aO.1 hq).2
 have hs:=qG9 P hs0 hp0
 obtain⟨news,hy⟩:=src_ok hH hk hs hb
 have hnl:=hy.src.newsLen
 split at hq
 ·
  obtain⟨hie,hq⟩:=Out.bG.1 hq
  obtain⟨base,rfl⟩:=ha.qDZ
  have hfc:=hy.front 0 (di _)
  simp only[qa,List.take_zero] at hfc
  refine⟨goInt 0,w,?_,.pure hH hq (.d _ _ (.int _ _))⟩
  have hm0:Nat.min n 0=0:=Nat.min_eq_right (di _)
  cases base with
  | none=>simp[Builtin.copy_,run_underlying ht,hy.src.len,aX hie,hfc]
  | some a=>simp[Builtin.copy_,run_underlying ht,hy.src.len,aX hie,hfc,storeCells]
 ·rename_i i off len cap
  split at hq
  ·rename_i o hi
   obtain⟨hc,hq⟩:=Out.bG.1 hq
   simp only[bu] at hc
   obtain⟨⟨h0,hke⟩,hie⟩:=hc
   have hke:=cz hke
   obtain⟨inf,hinf,hsz,_⟩:=qAr hie
   have hmn:Nat.min n len≤n:=Nat.min_le_left _ _
   have hml:Nat.min n len≤len:=Nat.min_le_right _ _
   obtain⟨tk1,tk2⟩:=qDW ys (Nat.min n len) (by rw[hy.len];exact hmn)
   split at hq
   ·rename_i o' ho
    obtain⟨hle,hq⟩:=Out.aO.1 hq
    have hle:off+len≤o.len reg:=bz hle
    have hfc:=hy.front (Nat.min n len) hmn
    have hlt:(news.take (Nat.min n len*P.cellsOf e)).length=Nat.min n len*P.cellsOf e:=by
     rw[il,hnl]
     exact ql (df _ hmn)
    have hat:At reg F w φ ((ys.take (Nat.min n len)).row reg) (Nat.min n len) (P.cellsOf e) (fun i=>(news.take (Nat.min n len*P.cellsOf e)).getD i undef) :=
     (hy.at_.qOC hmn).congr tk2 (fun i hi=>by simp[List.getD,hi])
    have hmono:∀u∈news.take (Nat.min n len*P.cellsOf e),u.oneCell' = true:=fun u hu=>hy.src.one u (List.mem_of_mem_take hu)
    cases ha with
    | sl _ _ _ _ b s k z cap' hp hcr hlc' hm hzz =>
     obtain⟨_,rfl,_,_,C,ct,fz,h1,h3,h2,hCz⟩:=lG hH hi hp h0
     have hlt':(news.take (Nat.min n len*P.cellsOf e)).length=Nat.min n len*o.k reg:=by rw[hlt,hke]
     have hat':At reg F w φ ((ys.take (Nat.min n len)).row reg) (Nat.min n len) (o.k reg) (fun i=>(news.take (Nat.min n len*P.cellsOf e)).getD i undef):=by rw[hke];exact hat
     obtain⟨g1,g2,g3⟩:=qDj h2 ho tk1 (by omega) hat' hlt'
     have hfit:s+off*o.k reg+(news.take (Nat.min n len*P.cellsOf e)).length≤C.size:=by
      have h4:(off+len)*o.k reg≤o.len reg*o.k reg:=df _ hle
      rw[gz] at h4
      have h5:Nat.min n len*o.k reg≤len*o.k reg:=df _ hml
      have:= h2.size
      omega
     have hst:=run_storeCells_cells (P:=P) b (s+off*o.k reg) (news.take (Nat.min n len*P.cellsOf e)) 0 w (fun j hj=>by rw[cell_of_heap h1];simp;omega) (fun j hj=>fT h1 h3 (by omega)) hmono
     simp only[ky] at hst
     have hrun:(Builtin.copy_ #[t,tx] ty #[.slice (some ⟨b,s+off*o.k reg,none⟩) len cap',cb]).run P w=.ok (goInt (Nat.min n len:Nat)) (w.setCells b (s+off*o.k reg) (news.take (Nat.min n len*P.cellsOf e))):=by
      simp[Builtin.copy_,run_underlying ht,hy.src.len,aX hie,hfc,hst]
     refine⟨_,_,hrun,nN hH hi hp (by rw[fA];exact hCz) hq (aR _ _ _).1 (aR _ _ _).2.1 (aR _ _ _).2.2 (size_setCells _ _ _) (fun b' hb'=>heap_setCells_other hb' _ _ _) (fC _ _ _ h1) (qX h3 _ _) g1 g2 g3 (.d _ _ (.int _ _))⟩
    | slz _ _ _ base hcr =>
     have hm0:Nat.min n 0=0:=Nat.min_eq_right (di _)
     have hnil:news.take (Nat.min n 0*P.cellsOf e)=[]:=jf (by rw[hlt,hm0,qa])
     rw[hnil,hm0] at hfc
     refine⟨goInt (Nat.min n 0:Nat),w,?_,qDk hH hi ho (by rw[tk1,hm0]) (by omega) hq (.d _ _ (.int _ _))⟩
     cases base with
     | none=>simp[Builtin.copy_,run_underlying ht,hy.src.len,aX hie,hfc]
     | some a=>simp[Builtin.copy_,run_underlying ht,hy.src.len,aX hie,hfc,storeCells]
   ·exact hq.elim
  ·exact hq.elim
 ·exact hq.elim
theorem qBV{t:TypeId}{l c:V reg.T}{cl cc:Value}{Q:V reg.T×Hp reg.T→Prop}(hH:HR N F φ h w)(hfr:∀r,Q r→bX N h.nx r.2.nx)(hq:(uV P t l c h).K Q)(hl:aA reg F w φ l cl)(hc:aA reg F w φ c cc):iZ P N F φ h w (Instr.makeSlice t cl cc) Q:=by
 unfold uV at hq
 split at hq
 ·rename_i e k l k' c ht
  have ht:=bO ht
  rw[hl.aW,hc.aW]
  split at hq
  ·rename_i o ho
   obtain⟨hb,hq⟩:=Out.aO.1 hq
   simp only[bu,decide_eq_true_eq] at hb
   obtain⟨⟨⟨⟨⟨h1,h2⟩,h3⟩,h4⟩,h5⟩,hzk⟩:=hb
   obtain⟨hok,hq⟩:=jC hq
   obtain⟨inf,z,hinf,hzz,hzs⟩:=qZ hzk
   have hsz:inf.size=P.cellsOf e:=by simp[Program.cellsOf,hinf]
   have hby:inf.bytes=P.bytesOf e:=by simp[Program.bytesOf,hinf]
   have hrun:=run_make (P:=P) w t e inf z ht hinf hzz k k' l c h1 h2 (by rw[hby];omega) h3
   have hrows:o.bB reg=true∧o.k reg=P.cellsOf e∧o.len reg=c.toNat∧∃zs:List (V reg.T),qU P e=some zs∧∀r,r<c.toNat→bM zs (o.row reg r):=by
    unfold nL at ho
    split at ho
    ·cases ho
    ·rename_i zs hzs'
     split at ho
     ·split at ho
      ·rename_i dl hke hdl
       split at ho
       ·rename_i x hx
        simp only[cu] at ho
        subst ho
        refine⟨rfl,cz hke,by simp[O.len],zs,hzs',fun r hr=>?_⟩
        simp only[O.row]
        have: (List.replicate c.toNat x).getD r (reg.dflt e)=x:=by simp[List.getD,hr]
        rw[this]
        exact bM.dec hdl hx
       ·cases ho
      ·cases ho
     ·simp only[cu] at ho
      subst ho
      refine⟨rfl,rfl,by simp[O.len],zs,hzs',fun r hr=>bM.of (by simp[O.row,List.getD,hr])⟩
   obtain⟨g1,g2,g3,zs,hzt,g4⟩:=hrows
   obtain⟨inf',z',hinf',hzz',hzl,hzrel⟩:=fE (F:=F) (w:=w) (φ:=φ) hzt
   rw[hinf] at hinf'
   cases hinf'
   rw[hzz] at hzz'
   cases hzz'
   have hmsz:(madeCells z.cells (c.toNat*inf.size)).size=c.toNat*P.cellsOf e:=by rw[size_madeCells,hsz]
   refine⟨_,_,hrun,lF hH hq (dA hfr hq) hok rfl rfl rfl (by simp) (fun b hb=>?_) (C:=madeCells z.cells (c.toNat*inf.size)) (t:=e) (fz:=(0,0)) (heap_alloc_new w _) (.inl rfl) g1 ?_ (by rw[g3];omega) ?_ ?_⟩
   ·show(w.heap.push _)[b]? = _
    rw[jr,if_neg (by omega)]
   ·rw[hmsz,g3,g2];exact dh _
   ·rw[g3,g2]
    refine At.le (row:=fun _=>zs) ⟨fun r hr=>by rw[hzl,hzs],fun r j hr hj=>(hzrel j (by omega)).2,fun r j hr hj=>?_⟩ g4
    have hlt:r*P.cellsOf e+j<c.toNat*inf.size:=by
     rw[hsz]
     have: (r+1)*P.cellsOf e≤c.toNat*P.cellsOf e:=df _ hr
     rw[j3] at this
     omega
    have e1:(madeCells z.cells (c.toNat*inf.size)).getD (r*P.cellsOf e+j) undef=z.cells.getD j undef:=by
     have h6:(r*P.cellsOf e+j) % z.cells.size=j:=by rw[hzs,o9,Nat.mul_add_mod];exact qg hj
     have h7:j<z.cells.size:=by omega
     simp[madeCells,Array.getD,hlt,h6,h7]
    rw[e1]
    exact(hzrel j (by omega)).1
   ·intro φ' e1 e2
    rw[g2,hmsz] at e1
    have:= aA.sl (reg:=reg) (F:=F) (w:=w.alloc (.cells (madeCells z.cells (c.toNat*inf.size)) e)) (φ:=φ') h.nx 0 l.toNat (.exact c.toNat) _ _ _ _ c.toNat e1 rfl (by omega) (by omega) (by omega)
    simpa using this
  ·exact hq.elim
 ·exact hq.elim
theorem uL{e:TypeId}{n:Nat}{o:O reg.T}(ho:nL reg P e n=some o):o.bB reg=true∧o.k reg=P.cellsOf e∧o.len reg=n∧∃zs:List (V reg.T),qU P e=some zs∧∀r,r<n→bM zs (o.row reg r):=by
 unfold nL at ho
 split at ho
 ·cases ho
 ·rename_i zs hzs'
  split at ho
  ·split at ho
   ·rename_i dl hke hdl
    split at ho
    ·rename_i x hx
     simp only[cu] at ho
     subst ho
     refine⟨rfl,cz hke,by simp[O.len],zs,hzs',fun r hr=>?_⟩
     simp only[O.row]
     have: (List.replicate n x).getD r (reg.dflt e)=x:=by simp[List.getD,hr]
     rw[this]
     exact bM.dec hdl hx
    ·cases ho
   ·cases ho
  ·simp only[cu] at ho
   subst ho
   refine⟨rfl,rfl,by simp[O.len],zs,hzs',fun r hr=>bM.of (by simp[O.row,List.getD,hr])⟩
theorem qEb{t tx ty:TypeId}{a b:V reg.T}{ca cb:Value}{Q:V reg.T×Hp reg.T→Prop}(hH:HR N F φ h w)(hfr:∀r,Q r→bX N h.nx r.2.nx)(hq:(qAC P t tx a b h).K Q)(ha:aA reg F w φ a ca)(hb:aA reg F w φ b cb) :
  iZ P N F φ h w (Builtin.append_ #[t,tx] ty #[ca,cb]) Q:=by
 unfold qAC at hq
 split at hq
 ·rename_i e kn i off len c kq n ht htn
  have ht:=bO ht
  rw[hb.aW]
  split at hq
  ·rename_i o zo hi hzo
   obtain⟨hc,hq⟩:=Out.bG.1 hq
   simp only[bu] at hc
   obtain⟨⟨h0,hke⟩,hie⟩:=hc
   split at hq
   ·rename_i o' ho hz
    obtain⟨hfit,hq⟩:=Out.aO.1 hq
    obtain⟨hok,hq⟩:=jC hq
    simp only[bu,decide_eq_true_eq] at hfit
    obtain⟨⟨⟨hn0,hgt⟩,hfit⟩,hle⟩:=hfit
    have hle:off+len≤o.len reg:=bz hle
    have hgt:c<len+n.toNat:=bz hgt
    obtain⟨m,rfl⟩:∃m:Nat,n=m:=⟨n.toNat,by omega⟩
    simp only[ed] at *
    obtain⟨inf,z,hinf,hzz,hzs⟩:=qZ hz
    have hsz:inf.size=P.cellsOf e:=by simp[Program.cellsOf,hinf]
    have hby:inf.bytes=P.bytesOf e:=by simp[Program.bytesOf,hinf]
    unfold mM at hfit
    simp only[bu] at hfit
    obtain⟨⟨⟨f1,f2⟩,_⟩,f4⟩:=hfit
    have f1:(len+m)*P.bytesOf e≤140737488355328:=bz f1
    have f2:len+m≤9223372036854775807:=bz f2
    have f4:0<P.cellsOf e:=bz f4
    have hsv:slv (P.cellsOf e) (.sl i off len (.exact c)) h=some (len,o.rw reg off len):=by
     have h2:Nat.ble (off+len) (o.len reg)=true:=fw hle
     simp[slv,hi,h0,hke,h2]
    obtain⟨ol,hyo⟩:=qDi (P:=P) (tx:=t) hH (.inl ⟨e,ht⟩) hsv ha
    have hform:∃base,ca=.slice base len c:=by
     cases ha with
     | sl _ _ _ _ b s k z cap' hp hcr hlc' hm hzz=>have: cap' = c:=hcr;subst this;exact⟨_,rfl⟩
     | slz _ _ _ base hcr=>have: 0=c:=hcr;subst this;exact⟨base,rfl⟩
    obtain⟨base,rfl⟩:=hform
    have hol:=hyo.src.newsLen
    have hold:=hyo.src.cellsD
    have haa:=hyo.at_
    obtain⟨g1,g2,g3,g4⟩:=jR ho
    obtain⟨z1,z2,z3,zs,hzt,z4⟩:=uL hzo
    obtain⟨r1,r2⟩:=mO (reg:=reg) (lo:=0) (n:=m) z1 (by omega)
    have a1:=(mO h0 hle).1
    rw[a1,r1] at g3
    obtain⟨inf',z',hinf',hzz',hzl,hzrel⟩:=fE (F:=F) (w:=w) (φ:=φ) hzt
    rw[hinf] at hinf'
    cases hinf'
    rw[hzz] at hzz'
    cases hzz'
    have hmb:m*P.bytesOf e≤140737488355328:=dm (df _ (by omega)) f1
    have hrun:=Lib.run_append_grow_zeros (P:=P) w t tx ty e inf z kq kn ht htn hinf hzz base len c ol (by rw[hsz];exact hold) m (by omega) (by omega) hgt (by omega) (by rw[hby];omega) (by rw[hby];exact growslice_fits hgt f1)
    have hcap1:=grownCap_ge w (len+m) c e
    have hcap2:=grownCap_le_maxLen w (len+m) c e f2
    have hnl:(Builtin.zeroCells z.cells m).toList.length=m*P.cellsOf e:=by simp[Builtin.zeroCells,hzs]
    have hget:∀r j,r<m→j<P.cellsOf e→(Builtin.zeroCells z.cells m).toList.getD (r*P.cellsOf e+j) undef=z.cells.getD j undef:=by
     intro r j hr hj
     have hlt:r*P.cellsOf e+j<m*P.cellsOf e:=by
      have: (r+1)*P.cellsOf e≤m*P.cellsOf e:=df _ hr
      rw[j3] at this
      omega
     have h6:(r*P.cellsOf e+j) % P.cellsOf e=j:=by rw[o9,Nat.mul_add_mod];exact qg hj
     have h7:j<z.cells.size:=by omega
     rw[fU]
     simp[Builtin.zeroCells,Array.getD,hlt,h6,hzs]
     rw[dif_pos hj,getElem!_pos z.cells j h7]
    have hat:At reg F w φ ((zo.rw reg 0 m).row reg) m (P.cellsOf e) (fun i=>(Builtin.zeroCells z.cells m).toList.getD i undef):=by
     have e1:∀r,r<m→bM zs ((zo.rw reg 0 m).row reg r):=fun r hr=>by rw[r2 r hr];exact z4 _ (by omega)
     refine At.le (row:=fun _=>zs) ⟨fun r hr=>by rw[hzl,hzs],fun r j hr hj=>(hzrel j (by omega)).2,fun r j hr hj=>?_⟩ e1
     rw[hget r j hr (by omega)]
     exact(hzrel j (by omega)).1
    have eC:ol.toArray++Builtin.zeroCells z.cells m=(ol++(Builtin.zeroCells z.cells m).toList).toArray:=by
     rw[←List.append_toArray,lh]
    rw[eC] at hrun
    refine⟨_,_,hrun,lF hH hq (dA hfr hq) hok rfl rfl rfl (by simp) (fun b hb=>?_) (C:=(ol++(Builtin.zeroCells z.cells m).toList).toArray++Builtin.zeroCells z.cells (grownCap w (len+m) c e-(len+m))) (t:=e) (fz:=(0,0)) ?_ (.inl rfl) g1 ?_ (by rw[g3];exact f2) ?_ ?_⟩
    ·show(w.heap.push _)[b]? = _
     rw[jr,if_neg (by omega)]
    ·exact heap_alloc_new w.drew _
    ·rw[qAs,g3,g2,hol,hnl,gz];omega
    ·rw[g3,g2]
     refine At.le (At.append (row:=fun r=>if r<len then(o.rw reg off len).row reg r else(zo.rw reg 0 m).row reg (r-len)) haa hat (fun r hr=>rfl) (fun j hj=>?_)) (fun r hr=>by have:= g4 r (by rw[a1,r1];exact hr);rw[a1] at this;exact this)
     rw[gz] at hj
     rw[qCp j (by omega),hol]
    ·intro φ' h1 h2
     rw[g2] at h1
     have:= aA.sl (reg:=reg) (F:=F) (w:=w.drew.alloc (.cells ((ol++(Builtin.zeroCells z.cells m).toList).toArray++Builtin.zeroCells z.cells (grownCap w (len+m) c e-(len+m))) e)) (φ:=φ') h.nx 0 (len+m) (.least 0) _ _ _ _ (grownCap w (len+m) c e) h1 (di _) hcap1
      (by simpa [maxLen] using hcap2) (by
       rw[qAs,hol,hnl,hzs,qa,fe,←gz,←gz]
       exact df _ (by omega))
     simpa using this
   ·exact hq.elim
  ·exact hq.elim
 ·exact hq.elim
theorem qIt{t ty:TypeId}{a:V reg.T}{ca:Value}{Q:V reg.T×Hp reg.T→Prop}(hH:HR N F φ h w)(hq:(qFx P t a h).K Q)(ha:aA reg F w φ a ca):iZ P N F φ h w (Builtin.clear_ #[t] ty #[ca]) Q:=by
 have hv0:∀{F:Nat→Prop} {w:World} {φ:Phi},aA reg F w φ (.tup []) (.tuple #[]):=.tup [] #[] rfl (fun j hj=>by simp at hj)
 unfold qFx at hq
 split at hq
 ·rename_i e ht
  have ht:=bO ht
  obtain⟨base,rfl⟩:=ha.qDZ
  refine⟨.tuple #[],w,?_,.pure hH hq hv0⟩
  cases base<;>simp[Builtin.clear_,run_underlying ht]
 ·rename_i e i off len cap ht
  have ht:=bO ht
  split at hq
  ·rename_i o zo hi hzo
   split at hq
   ·rename_i o' ho
    have hb:=(Out.aO.1 hq).1
    replace hq:=(Out.aO.1 hq).2
    simp only[bu] at hb
    obtain⟨⟨⟨hle,h0⟩,hke⟩,hzk⟩:=hb
    have hle:off+len≤o.len reg:=bz hle
    have hke:=cz hke
    obtain⟨inf,z,hinf,hzz,hzs⟩:=qZ hzk
    obtain⟨g1,g2,g3,zs,hzt,g4⟩:=uL hzo
    obtain⟨inf',z',hinf',hzz',hzl,hzrel⟩:=fE (F:=F) (w:=w) (φ:=φ) hzt
    rw[hinf] at hinf'
    cases hinf'
    rw[hzz] at hzz'
    cases hzz'
    obtain⟨r1,r2⟩:=mO (reg:=reg) (lo:=0) (n:=len) g1 (by omega)
    have hnl:(Builtin.zeroCells z.cells len).toList.length=len*o.k reg:=by simp[Builtin.zeroCells,hzs,hke]
    have hget:∀r j,r<len→j<P.cellsOf e→(Builtin.zeroCells z.cells len).toList.getD (r*o.k reg+j) undef=z.cells.getD j undef:=by
     intro r j hr hj
     have hlt:r*P.cellsOf e+j<len*P.cellsOf e:=by
      have: (r+1)*P.cellsOf e≤len*P.cellsOf e:=df _ hr
      rw[j3] at this
      omega
     have h6:(r*P.cellsOf e+j) % P.cellsOf e=j:=by rw[o9,Nat.mul_add_mod];exact qg hj
     have h7:j<z.cells.size:=by omega
     rw[fU,hke]
     simp[Builtin.zeroCells,Array.getD,hlt,h6,hzs]
     rw[dif_pos hj,getElem!_pos z.cells j h7]
    have hat:At reg F w φ ((zo.rw reg 0 len).row reg) len (o.k reg) (fun i=>(Builtin.zeroCells z.cells len).toList.getD i undef):=by
     have e1:∀r,r<len→bM zs ((zo.rw reg 0 len).row reg r):=fun r hr=>by rw[r2 r hr];exact g4 _ (by omega)
     refine At.le (row:=fun _=>zs) ⟨fun r hr=>by rw[hzl,hzs,hke],fun r j hr hj=>(hzrel j (by omega)).2,fun r j hr hj=>?_⟩ e1
     rw[hget r j hr (by omega)]
     exact(hzrel j (by omega)).1
    have hmono:∀u∈(Builtin.zeroCells z.cells len).toList,u.oneCell' = true:=by
     intro u hu
     obtain⟨i,hi⟩:=qf.1 hu
     have hlt:i<len*o.k reg:=by rw[←hnl];exact(eu.1 hi).1
     have:= hat.one i hlt
     simpa [List.getD,hi] using this
    cases ha with
    | sl _ _ _ _ b s k zz cap' hp hcr hlc' hm hzz' =>
     obtain⟨_,rfl,_,_,C,ct,fz,h1,h3,h2,hCz⟩:=lG hH hi hp h0
     obtain⟨k1,k2,k3⟩:=qDj h2 ho r1 (by omega) hat hnl
     have hfit:s+off*o.k reg+(Builtin.zeroCells z.cells len).toList.length≤C.size:=by
      have h4:(off+len)*o.k reg≤o.len reg*o.k reg:=df _ hle
      rw[gz] at h4
      have:= h2.size
      omega
     have hst:=run_storeCells_cells (P:=P) b (s+off*o.k reg) (Builtin.zeroCells z.cells len).toList 0 w (fun j hj=>by rw[cell_of_heap h1];simp;simp at hj hfit;omega) (fun j hj=>fT h1 h3 (by omega)) hmono
     simp only[ky] at hst
     have hrun:(Builtin.clear_ #[t] ty #[.slice (some ⟨b,s+off*o.k reg,none⟩) len cap']).run P w=.ok (.tuple #[]) (w.setCells b (s+off*o.k reg) (Builtin.zeroCells z.cells len).toList):=by
      cases len with
      | zero =>
       have: (Builtin.zeroCells z.cells 0).toList=[]:=by simp[Builtin.zeroCells]
       rw[this] at hst ⊢
       simp[Builtin.clear_,run_underlying ht,World.setCells]
      | succ m=>simp[Builtin.clear_,run_underlying ht,zeroValue,typeInfo,hinf,hzz,hst]
     exact⟨_,_,hrun,nN hH hi hp (by rw[fA];exact hCz) hq (aR _ _ _).1 (aR _ _ _).2.1 (aR _ _ _).2.2 (size_setCells _ _ _) (fun b' hb'=>heap_setCells_other hb' _ _ _) (fC _ _ _ h1) (qX h3 _ _) k1 k2 k3 hv0⟩
    | slz _ _ _ base hcr =>
     refine⟨.tuple #[],w,?_,qDk hH hi ho r1 (by omega) hq hv0⟩
     cases base<;>simp[Builtin.clear_,run_underlying ht]
   ·exact hq.elim
  ·exact hq.elim
 ·exact hq.elim
end
end Go.W
namespace Go.W
open Go Go.RowKit
section
variable {reg:Reg} {P:Program} {N F:Nat→Prop} {φ:Phi} {h:Hp reg.T} {w:World}
structure Bnd(x:Option (Option (V reg.T)))(c:Option Value)(dflt:Int)(n:Int):Prop where
 none:c=none→n=dflt
 some:∀v,c=some v→∃k,v=.int k n
theorem nG{x:Option (Option (V reg.T))}{c:Option Value}{dflt n:Int}(hb:bnd x dflt=some n)(hc:x=none↔c=none)(hr:∀v cv,x=some (some v)→c=some cv→aA reg F w φ v cv):Bnd x c dflt n:=by
 unfold bnd at hb
 split at hb
 ·refine⟨fun _=>by simpa using hb.symm,fun v hv=>?_⟩
  rw[hc.1 rfl] at hv;cases hv
 ·rename_i k m
  cases hb
  exact⟨fun hn=>(by have:= hc.2 hn;cases this),fun v hv=>⟨k,(hr _ _ rfl hv).aW⟩⟩
 ·cases hb
theorem gJ{k:IntKind}{n:Int}{y:Nat}{code:BoundsCode}(h0:0≤n)(h1:n≤y):(Instr.sliceBound (.int k n) y code).run P w=.ok n.toNat w:=by
 simp[Instr.sliceBound,asIntOf,h0,h1]
theorem pU{isSlice:Bool}{len cap:Nat}{lo hi:Option Value}{l u:Int}{x y:Option (Option (V reg.T))}(hl:Bnd x lo 0 l)(hh:Bnd y hi len u)(h0:0≤l)(h1:l≤u)(h2:u≤cap) :
  (Instr.sliceBounds isSlice len cap lo hi none).run P w=.ok (l.toNat,u.toNat,cap) w:=by
 cases hi with
 | none =>
  have:= hh.none rfl
  subst this
  cases lo with
  | none=>have:= hl.none rfl;subst this;simp[Instr.sliceBounds]
  | some v=>obtain⟨k,rfl⟩:=hl.some v rfl;simp[Instr.sliceBounds,gJ h0 h1]
 | some v =>
  obtain⟨k,rfl⟩:=hh.some v rfl
  cases lo with
  | none=>have:= hl.none rfl;subst this;simp[Instr.sliceBounds,gJ (P:=P) (w:=w) (k:=k) (show 0≤u by omega) h2]
  | some v =>
   obtain⟨k',rfl⟩:=hl.some v rfl
   simp[Instr.sliceBounds,gJ (P:=P) (w:=w) (k:=k) (show 0≤u by omega) h2,gJ (P:=P) (w:=w) (k:=k') (y:=u.toNat) h0 (show l≤(u.toNat:Int) by omega)]
theorem zV{isSlice:Bool}{len cap:Nat}{lo hi mx:Option Value}{l u m:Int}{x y z:Option (Option (V reg.T))}(hl:Bnd x lo 0 l)(hh:Bnd y hi len u)(hm:Bnd z mx 0 m)(hi':hi≠none)(hm':mx≠none)(h0:0≤l)(h1:l≤u)(h2:u≤m)(h3:m≤cap) :
  (Instr.sliceBounds isSlice len cap lo hi mx).run P w=.ok (l.toNat,u.toNat,m.toNat) w:=by
 cases hi with
 | none=>exact absurd rfl hi'
 | some v =>
  cases mx with
  | none=>exact absurd rfl hm'
  | some v' =>
   obtain⟨k,rfl⟩:=hh.some v rfl
   obtain⟨k2,rfl⟩:=hm.some v' rfl
   cases lo with
   | none=>have:= hl.none rfl;subst this;simp[Instr.sliceBounds,gJ (P:=P) (w:=w) (k:=k2) (show 0≤m by omega) h3,gJ (P:=P) (w:=w) (k:=k) (y:=m.toNat) (show 0≤u by omega) (show u≤(m.toNat:Int) by omega)]
   | some v =>
    obtain⟨k',rfl⟩:=hl.some v rfl
    simp[Instr.sliceBounds,gJ (P:=P) (w:=w) (k:=k2) (show 0≤m by omega) h3,gJ (P:=P) (w:=w) (k:=k) (y:=m.toNat) (show 0≤u by omega) (show u≤(m.toNat:Int) by omega),gJ (P:=P) (w:=w) (k:=k') (y:=u.toNat) h0 (show l≤(u.toNat:Int) by omega)]
theorem yL{lo hi mx:Int}(h:inB lo hi mx=true):0≤lo∧lo≤hi∧hi≤mx:=by
 unfold inB at h
 simp only[bu,decide_eq_true_eq] at h
 exact⟨h.1.1,h.1.2,h.2⟩
theorem gV{t e:TypeId}{a:Option Addr}{len cap:Nat}{lo hi mx:Option Value}{l u m:Nat}(ht:P.underlying t=some (.slice e))(hie:(P.info? e).isSome=true)(hb:(Instr.sliceBounds true len cap lo hi mx).run P w=.ok (l,u,m) w) :
  (Instr.sliceAt t (.slice a len cap) lo hi mx).run P w=.ok (.slice (if m=l then a else a.map (·.add (l*P.cellsOf e))) (u-l) (m-l)) w:=by
 simp[Instr.sliceAt,Instr.slice,run_underlying ht,hb,aX hie]
theorem qMu{x:D reg.T}{n lo hi k:Nat}{a:Option Addr}{cap:Nat}(hx:x.qR=true)(hl:x.len? reg=some n)(h1:lo≤hi)(h2:hi≤n)(hk:x.k reg 0=k)(hd:dQ reg F w x (.slice a n cap)) :
  dQ reg F w (x.sub reg lo hi) (.slice (if cap=lo then a else a.map (·.add (lo*k))) (hi-lo) (cap-lo)):=by
 have hs:=qGF (lo:=lo) (hi:=hi) (k0:=0) hx
 have hsl:=qGE hl h1 h2 hx
 by_cases he:hi-lo=0
 ·rw[he] at hsl ⊢
  exact .emp _ hs.2 hsl _ _
 ·cases hd with
  | nils=>cases hx
  | emp _ hx1 hx2=>rw[hx2] at hl;cases hl;omega
  | sl _ _ ad _ C t fz hx1 hx2 hF hb hsp hc hm hz hkr hr =>
   have hne:¬cap=lo:=by omega
   rw[if_neg hne]
   obtain⟨ab,ao,asp⟩:=ad
   simp only at hsp hF hb hz hr
   subst hsp
   simp only[qo,nQ]
   have hle:lo*k+(hi-lo)*k≤n*k:=by rw[←gz];exact df _ (by omega)
   rw[hk] at hz hkr hr
   refine .sl _ (hi-lo) ⟨ab,ao+lo*k,none⟩ (cap-lo) C t fz hs.2 hsl hF hb rfl (by omega) (by omega) ?_ ?_ ?_
   ·rw[hs.1,hk];simp only;omega
   ·intro r hrr
    rw[qAq hl hx r hrr,hs.1,hk]
    exact hkr _ (by omega)
   ·intro r j hrr hj
    rw[hs.1,hk] at hj ⊢
    rw[qAq hl hx r hrr]
    have:= hr (lo+r) j (by omega) hj
    rw[gz] at this
    simp only
    rwa [show ao+lo*k+r*k+j=ao+(lo*k+r*k)+j by omega]
theorem qIu{t:TypeId}{x:V reg.T}{cx:Value}{lo hi mx:Option (Option (V reg.T))}{clo chi cmx:Option Value}{Q:V reg.T×Hp reg.T→Prop}(hH:HR N F φ h w)(hq:(qFy P t x lo hi mx h).K Q)(hx:aA reg F w φ x cx)
  (clo0:lo=none↔clo=none) (clo1:∀v cv,lo=some (some v)→clo=some cv→aA reg F w φ v cv) (chi0:hi=none↔chi=none) (chi1:∀v cv,hi=some (some v)→chi=some cv→aA reg F w φ v cv)
  (cmx0:mx=none↔cmx=none) (cmx1:∀v cv,mx=some (some v)→cmx=some cv→aA reg F w φ v cv):iZ P N F φ h w (Instr.sliceAt t cx clo chi cmx) Q:=by
 unfold qFy at hq
 split at hq
 ·
  rename_i s
  split at hq
  ·rename_i l u ht hl hh
   have ht:=nO ht
   have hmx:=cmx0.1 rfl
   subst hmx
   obtain⟨hb,hq⟩:=Out.aO.1 hq
   obtain⟨h0,h1,h2⟩:=yL hb
   have bl:=nG hl clo0 clo1
   have bh:=nG hh chi0 chi1
   rw[hx.dR]
   have hsz:(ByteArray.mk s.toArray).size=s.length:=by simp[ByteArray.size]
   have hrun:=pU (P:=P) (w:=w) (isSlice:=false) (len:=s.length) (cap:=s.length) bl bh h0 h1 h2
   refine⟨.string ⟨((s.take u.toNat).drop l.toNat).toArray⟩,w,?_,.pure hH hq (.d _ _ (.str _))⟩
   have e:(s.drop l.toNat).take (u.toNat-l.toNat)=(s.take u.toNat).drop l.toNat:=by rw[List.drop_take]
   simp[Instr.sliceAt,Instr.slice,run_underlying ht,hsz,hrun,ByteArray.extract_mk,e]
  ·exact hq.elim
 ·rename_i x hns
  split at hq
  ·rename_i n e l hn ht hl
   have ht:=bO ht
   have bl:=nG hl clo0 clo1
   have hform:∃a cap,cx=.slice a n cap∧n≤cap∧dQ reg F w x (.slice a n cap)∧(x=.nils→n=0∧cap=0):=by
    cases hx with | d _ _ hd =>
    cases hd<;>(try (simp only[D.len?,reduceCtorEq] at hn;done))
    case nils=>simp only[D.len?,cu] at hn;subst hn;exact⟨none,0,rfl,dh _,.nils,fun _=>⟨rfl,rfl⟩⟩
    case emp base cap hx1 hx2=>rw[hx2] at hn;cases hn;exact⟨base,cap,rfl,di _,.emp _ hx1 hx2 _ _,fun e=>by rw[e] at hx1;cases hx1⟩
    case sl n' a cap C t' fz hF hb hs hc hm hx1 hx2 hz hkr hr =>
     rw[hx2] at hn;cases hn
     exact⟨_,cap,rfl,hc,.sl _ _ a cap C t' fz hx1 hx2 hF hb hs hc hm hz hkr hr,fun e=>by rw[e] at hx1;cases hx1⟩
   obtain⟨a,cap,rfl,hnc,hd,hnils⟩:=hform
   split at hq
   ·have hmx:=cmx0.1 rfl
    subst hmx
    split at hq
    ·rename_i u hh
     have bh:=nG hh chi0 chi1
     split at hq
     ·obtain⟨hb,hq2⟩:=Out.aO.1 hq
      clear hq
      simp only[bu] at hb
      obtain⟨h0,h1,h2⟩:=yL hb.1
      obtain⟨rfl,rfl⟩:=hnils rfl
      have hrun:=pU (P:=P) (w:=w) (isSlice:=true) (len:=0) (cap:=0) bl bh h0 h1 h2
      refine⟨_,w,gV ht hb.2 hrun,.pure hH hq2 (.d _ _ ?_)⟩
      have e1:u.toNat-l.toNat=0:=by omega
      have e2:0-l.toNat=0:=by omega
      have ha:a=none:=by
       cases hd with
       | nils=>rfl
       | emp _ h=>cases h
       | sl _ _ _ _ _ _ _ h=>cases h
      subst ha
      rw[e1,e2]
      have e3:(if(0:Nat)=l.toNat then(none:Option Addr) else Option.map (fun x:Addr=>x.add (l.toNat*P.cellsOf e)) none)=none:=by split<;>rfl
      rw[e3]
      exact .nils
     ·rename_i hnn
      obtain⟨hb,hq⟩:=Out.aO.1 hq
      simp only[bu] at hb
      obtain⟨h0,h1,h2⟩:=yL hb.1.1
      have hk:=cz hb.2
      have hsl:x.qR=true:=by cases x<;>first | rfl | (simp only[D.len?,reduceCtorEq] at hn;done) | exact absurd rfl hnn
      have hrun:=pU (P:=P) (w:=w) (isSlice:=true) (len:=n) (cap:=cap) bl bh h0 h1 (by omega)
      refine⟨_,w,gV ht hb.1.2 hrun,.pure hH hq (.d _ _ ?_)⟩
      exact qMu hsl hn (by omega) (by omega) (by rw[qJz hsl 0 (P.cellsOf e)];exact hk) hd
    ·exact hq.elim
   ·rename_i m
    split at hq
    ·rename_i hhi hh hm
     have bh:=nG hh chi0 chi1
     have bm:=nG hm cmx0 cmx1
     obtain⟨hb,hq2⟩:=Out.aO.1 hq
     clear hq
     simp only[bu] at hb
     obtain⟨h0,h1,h2⟩:=yL hb.1
     have hmx':cmx≠none:=fun e=>by have:= cmx0.2 e;cases this
     cases chi with
     | none=>rw[chi0.2 rfl] at hhi;cases hhi
     | some vh =>
      have hrun:=zV (P:=P) (w:=w) (isSlice:=true) (len:=n) (cap:=cap) bl bh bm (by simp) hmx' h0 h1 (Int.le_refl _) (by omega)
      refine⟨_,w,gV ht hb.2 hrun,.pure hH hq2 (.d _ _ ?_)⟩
      have e1:(0:Int).toNat-l.toNat=0:=by omega
      have ha:a=none:=by
       cases hd with
       | nils=>rfl
       | emp _ h=>cases h
       | sl _ _ _ _ _ _ _ h=>cases h
      subst ha
      rw[e1]
      have e3:(if(0:Int).toNat=l.toNat then(none:Option Addr) else Option.map (fun x:Addr=>x.add (l.toNat*P.cellsOf e)) none)=none:=by split<;>rfl
      rw[e3]
      exact .nils
    ·exact hq.elim
  ·exact hq.elim
 ·rename_i i off len cap
  split at hq
  ·rename_i e l o ht hl hi'
   have ht:=bO ht
   have bl:=nG hl clo0 clo1
   obtain⟨hc,hq⟩:=Out.bG.1 hq
   simp only[bu] at hc
   obtain⟨⟨hrw,hke⟩,hie⟩:=hc
   have hke:=cz hke
   have hform:∃a cap',cx=.slice a len cap'∧pO cap cap'∧len≤cap'∧∀(l u m:Nat) (cap2:Cap),l≤u→u≤m→m≤cap'→pO cap2 (m-l)→(cap.loose=true→cap2.loose=true∨l<m) →
     aA reg F w φ (.sl i (off+l) (u-l) cap2) (.slice (if m=l then a else a.map (·.add (l*P.cellsOf e))) (u-l) (m-l)):=by
    cases hx with
    | sl _ _ _ _ b s k z cap' hp hcr hlc hm hzz =>
     refine⟨_,cap',rfl,hcr,hlc,fun l u m cap2 h1 h2 h3 h4 h5'=>?_⟩
     obtain⟨_,rfl,_⟩:=lG hH hi' hp hrw
     by_cases hml:m=l
     ·have e1:u-l=0:=by omega
      have e2:m-l=0:=by omega
      rw[e1,e2,if_pos hml]
      rw[e2] at h4
      exact .slz _ _ _ _ h4 (fun e=>by cases e)
     ·rw[if_neg hml]
      simp only[qo,nQ]
      have h5:l*o.k reg+(m-l)*o.k reg≤cap' * o.k reg:=by rw[←gz];exact df _ (by omega)
      have:= aA.sl (reg:=reg) (F:=F) (w:=w) (φ:=φ) i (off+l) (u-l) cap2 b s (o.k reg) z (m-l) hp h4 (by omega) (by omega) (by rw[gz];omega)
      rw[hke] at this
      rw[gz,←ni] at this
      rw[hke]
      exact this
    | slz _ _ _ base hcr hnb =>
     refine⟨base,0,rfl,hcr,dh _,fun l u m cap2 h1 h2 h3 h4 h5=>?_⟩
     have e1:u-l=0:=by omega
     have e2:m-l=0:=by omega
     rw[e1,e2]
     rw[e2] at h4
     refine .slz _ _ _ _ h4 (fun e=>?_)
     have hbn:base=none:=by
      rw[if_pos (by omega)] at e
      exact e
     rcases h5 (hnb hbn) with h6 | h6
     ·exact h6
     ·omega
   obtain⟨a,cap',rfl,hcr,hlc,hv⟩:=hform
   have hmin:qAD cap len≤cap':=by
    cases cap with
    | exact c=>have: cap' = c:=hcr;simp only[qAD];omega
    | least c=>have: c≤cap':=hcr;simp only[qAD];exact Nat.max_le.2 ⟨this,hlc⟩
   split at hq
   ·have hmx:=cmx0.1 rfl
    subst hmx
    split at hq
    ·rename_i u hh
     have bh:=nG hh chi0 chi1
     obtain⟨hb,hq⟩:=Out.aO.1 hq
     obtain⟨h0,h1,h2⟩:=yL hb
     have hrun:=pU (P:=P) (w:=w) (isSlice:=true) (len:=len) (cap:=cap') bl bh h0 h1 (by omega)
     refine⟨_,w,gV ht hie hrun,.pure hH hq ?_⟩
     have e1:(u-l).toNat=u.toNat-l.toNat:=by omega
     rw[e1]
     refine hv l.toNat u.toNat cap' _ (by omega) (by omega) (dh _) ?_ ?_
     ·cases cap with
      | exact c=>have: cap' = c:=hcr;subst this;exact rfl
      | least c=>have: c≤cap':=hcr;exact Nat.sub_le_sub_right (Nat.max_le.2 ⟨this,hlc⟩) _
     ·intro hlo
      cases cap with
      | exact c=>cases hlo
      | least c=>exact .inl rfl
    ·exact hq.elim
   ·rename_i m
    split at hq
    ·rename_i u w' hhi hh hm
     have bh:=nG hh chi0 chi1
     have bm:=nG hm cmx0 cmx1
     obtain⟨hb,hq⟩:=Out.aO.1 hq
     simp only[bu,jm,decide_eq_true_eq] at hb
     obtain⟨hb,hbl⟩:=hb
     obtain⟨h0,h1,h2⟩:=yL hb.1
     have hmx':cmx≠none:=fun e=>by have:= cmx0.2 e;cases this
     cases chi with
     | none=>rw[chi0.2 rfl] at hhi;cases hhi
     | some vh =>
      have hrun:=zV (P:=P) (w:=w) (isSlice:=true) (len:=len) (cap:=cap') bl bh bm (by simp) hmx' h0 h1 h2 (by omega)
      refine⟨_,w,gV ht hie hrun,.pure hH hq ?_⟩
      have e1:(u-l).toNat=u.toNat-l.toNat:=by omega
      have e2:(w' - l).toNat=w'.toNat-l.toNat:=by omega
      rw[e1,e2]
      refine hv l.toNat u.toNat w'.toNat _ (by omega) (by omega) (by omega) rfl (fun hlo=>.inr ?_)
      rcases hbl with h7 | h7
      ·rw[hlo] at h7;cases h7
      ·omega
    ·exact hq.elim
  ·exact hq.elim
 ·exact hq.elim
end
end Go.W
namespace Go.W
open Go Go.RowKit
section
variable {reg:Reg} {P:Program} {N F:Nat→Prop} {φ:Phi} {h:Hp reg.T} {w:World}
theorem qBW{t:TypeId}{x i:V reg.T}{cx ci:Value}{Q:V reg.T×Hp reg.T→Prop}(hH:HR N F φ h w)(hq:(uW P t x i h).K Q)(hx:aA reg F w φ x cx)(hi:aA reg F w φ i ci):iZ P N F φ h w (Instr.indexAt t cx ci) Q:=by
 unfold uW at hq
 split at hq
 ·rename_i k n
  rw[hi.aW]
  have arr:∀(m:Nat) (e:TypeId) (b o:Nat),P.underlying t=some (.array m e)→(P.info? e).isSome=true→0≤n→n<(m:Int) →
    (Instr.indexAt t (.pointer (some ⟨b,o,none⟩)) (.int k n)).run P w=.ok (.pointer (some ⟨b,o+n.toNat*P.cellsOf e,none⟩)) w:=by
   intro m e b o hu hie h0 h1
   simp[Instr.indexAt,asIntOf,run_underlying hu,Instr.sureAddr,h0,h1,aX hie,nQ]
  have slc:∀(e:TypeId) (b o len cap:Nat),P.underlying t=some (.slice e)→(P.info? e).isSome=true→0≤n→n<(len:Int) →
    (Instr.indexAt t (.slice (some ⟨b,o,none⟩) len cap) (.int k n)).run P w=.ok (.pointer (some ⟨b,o+n.toNat*P.cellsOf e,none⟩)) w:=by
   intro e b o len cap hu hie h0 h1
   simp[Instr.indexAt,asIntOf,run_underlying hu,h0,h1,aX hie,nQ]
  split at hq
  ·rename_i j r o
   split at hq
   ·rename_i m e hu
    obtain⟨hb,hq⟩:=Out.aO.1 hq
    simp only[bu,decide_eq_true_eq] at hb
    obtain⟨b,s,kk,z,hp,rfl⟩:=hx.sO
    refine⟨_,w,arr m e _ _ hu hb.2 hb.1.1 hb.1.2,.pure hH hq ?_⟩
    have:= aA.ptr (reg:=reg) (F:=F) (w:=w) (φ:=φ) j r (o+n.toNat*P.cellsOf e) b s kk z hp
    rwa [show s+r*kk+(o+n.toNat*P.cellsOf e)=s+r*kk+o+n.toNat*P.cellsOf e by omega] at this
   ·exact hq.elim
  ·rename_i row o
   split at hq
   ·rename_i m e hu
    obtain⟨hb,hq⟩:=Out.aO.1 hq
    simp only[bu,decide_eq_true_eq] at hb
    cases hx with
    | fp _ _ ad C ct fz hF hbk hz hr =>
     refine⟨_,w,arr m e _ _ hu hb.2 hb.1.1 hb.1.2,.pure hH hq ?_⟩
     have:= aA.fp (reg:=reg) (F:=F) (w:=w) (φ:=φ) row (o+n.toNat*P.cellsOf e) ad C ct fz hF hbk hz hr
     rwa [show ad.off+(o+n.toNat*P.cellsOf e)=ad.off+o+n.toNat*P.cellsOf e by omega] at this
   ·exact hq.elim
  ·rename_i x
   split at hq
   ·rename_i e len ht hl
    have ht:=bO ht
    obtain⟨hb,hq⟩:=Out.aO.1 hq
    simp only[bu,decide_eq_true_eq] at hb
    obtain⟨⟨⟨h0,h1⟩,hk⟩,hie⟩:=hb
    have hk:=cz hk
    cases hx with | d _ _ hd =>
    cases hd<;>(try (simp only[D.len?,reduceCtorEq] at hl;done))
    case nils=>simp only[D.len?,cu] at hl;subst hl;omega
    case emp base cap hx1 hx2=>rw[hx2] at hl;cases hl;omega
    case sl n' a cap C t' fz hF hb hs hc hm hx1 hx2 hz hkr hr =>
     rw[hx2] at hl;cases hl
     obtain⟨ab,ao,asp⟩:=a
     simp only at hs hF hb hz hr
     subst hs
     rw[qJz hx1 _ 0] at hk
     rw[hk] at hz hkr hr
     have hn:n.toNat<len:=by omega
     refine⟨_,w,slc e ab ao len cap ht hie h0 h1,.pure hH hq ?_⟩
     have hlen:=hkr n.toNat hn
     have:= aA.fp (reg:=reg) (F:=F) (w:=w) (φ:=φ) (x.row reg n.toNat) 0 ⟨ab,ao+n.toNat*P.cellsOf e,none⟩ C t' fz hF hb (by
       rw[hlen]
       have: (n.toNat+1)*P.cellsOf e≤len*P.cellsOf e:=df _ hn
       rw[j3] at this
       simp only
       omega) (fun j hj=>hr n.toNat j hn (by omega))
     simpa using this
   ·exact hq.elim
  ·rename_i j off len cap
   split at hq
   ·rename_i e o ht ho
    have ht:=bO ht
    obtain⟨hc,hq⟩:=Out.bG.1 hq
    simp only[bu] at hc
    obtain⟨⟨hrw,hke⟩,hie⟩:=hc
    have hke:=cz hke
    obtain⟨hb,hq⟩:=Out.aO.1 hq
    simp only[bu,decide_eq_true_eq] at hb
    cases hx with
    | sl _ _ _ _ b s kk z cap' hp hcr hlc hm hzz =>
     obtain⟨_,rfl,_⟩:=lG hH ho hp hrw
     refine⟨_,w,slc e _ _ len cap' ht hie hb.1 hb.2,.pure hH hq ?_⟩
     have:= aA.ptr (reg:=reg) (F:=F) (w:=w) (φ:=φ) j (off+n.toNat) 0 b s _ z hp
     rw[gz,ky,←ni,hke] at this
     rw[hke]
     exact this
    | slz _ _ _ base hcr=>omega
   ·exact hq.elim
  ·exact hq.elim
 ·exact hq.elim
theorem qAt{t:TypeId}{vs:List (V reg.T)}{cs:Array Value}{off:Nat}{v:V reg.T}(hz:vs.length=cs.size)(hr:∀j,j<vs.length→aA reg F w φ (vs.getD j .any) (cs.getD j undef))
  (hv:asVar P t ((vs.drop off).take (P.cellsOf t))=some v):∃cv,(part t cs off).run P w=.ok cv w∧aA reg F w φ v cv:=by
 have hg:∀j,j<((vs.drop off).take (P.cellsOf t)).length→((vs.drop off).take (P.cellsOf t)).getD j .any=vs.getD (off+j) .any∧off+j<vs.length∧j<P.cellsOf t:=by
  intro j hj
  simp only[il,ko] at hj
  refine⟨?_,by omega,by omega⟩
  simp only[List.getD,gy,ic]
  rw[if_pos (by omega)]
 obtain⟨hk,hlen,hrel⟩:=yJ (reg:=reg) (F:=F) (w:=w) (φ:=φ) hv (fun j=>cs.getD (off+j) undef) (fun j hj=>by rw[(hg j hj).1];exact hr _ (hg j hj).2.1)
 have hk':=hk
 unfold kE at hk'
 simp only[bu] at hk'
 cases ha:dZ P t with
 | true =>
  rw[ha] at hrel hlen
  simp only[if_true] at hrel hlen
  refine⟨_,?_,hrel⟩
  simp only[part,Sem.run_bind,yI hk,Result.andThen_ok,ha,if_true,aX hk'.2,Sem.run_pure,Result.ok.injEq,Value.agg.injEq,and_true]
  have hle:off+P.cellsOf t≤cs.size∨P.cellsOf t=0:=by
   rcases lg (P.cellsOf t) with h | h
   ·exact .inr h
   ·left
    have:= (hg (P.cellsOf t-1) (by omega)).2.1
    omega
  apply qx
  ·simp;omega
  ·intro j h1 h2
   simp at h2
   have: off+j<cs.size:=by omega
   simp[Array.getD,this]
 | false =>
  rw[ha] at hrel hlen
  simp only[iy,if_false,ky] at hrel hlen
  have h0:=hg 0 (by omega)
  have hlt:off<cs.size:=by omega
  refine⟨_,?_,hrel⟩
  have e:cs[off]? = some (cs.getD off undef):=by simp[hlt]
  simp only[part,Sem.run_bind,yI hk,Result.andThen_ok,ha,e]
  rfl
theorem qIv{t:TypeId}{x i:V reg.T}{cx ci:Value}{Q:V reg.T×Hp reg.T→Prop}(hH:HR N F φ h w)(hq:(qFz P t x i h).K Q)(hx:aA reg F w φ x cx)(hi:aA reg F w φ i ci):iZ P N F φ h w (Instr.index t cx ci) Q:=by
 unfold qFz at hq
 split at hq
 ·rename_i s k n
  rw[hi.aW,hx.dR]
  obtain⟨ht,hq⟩:=Out.bG.1 hq
  have ht:=nO ht
  obtain⟨hb,hq⟩:=Out.aO.1 hq
  simp only[bu,decide_eq_true_eq] at hb
  have hlt:n.toNat<(ByteArray.mk s.toArray).size:=by simp[ByteArray.size];omega
  have hlt':n.toNat<s.length:=by omega
  refine⟨_,w,?_,.pure hH hq (.d _ _ (.int _ _))⟩
  have e:(ByteArray.mk s.toArray)[n.toNat]=s.getD n.toNat 0:=by
   simp[List.getD,hlt']
   rfl
  simp[Instr.index,asIntOf,run_underlying ht,hb.1,ByteArray.getElem?_lt' _ _ hlt,e]
 ·rename_i vs k n
  rw[hi.aW]
  split at hq
  ·rename_i m e hu
   obtain⟨hb,hq⟩:=Out.aO.1 hq
   simp only[bu,decide_eq_true_eq] at hb
   obtain⟨v,hv,hq⟩:=eD hq
   cases hx with
   | agg _ cs hz hr =>
    obtain⟨cv,h1,h2⟩:=qAt hz hr hv
    have hk:=(yJ (reg:=reg) (F:=F) (w:=w) (φ:=φ) hv (fun j=>cs.getD (n.toNat*P.cellsOf e+j) undef) (fun j hj=>by
     simp only[il,ko] at hj
     have: ((vs.drop (n.toNat*P.cellsOf e)).take (P.cellsOf e)).getD j .any=vs.getD (n.toNat*P.cellsOf e+j) .any:=by
      simp only[List.getD,gy,ic]
      rw[if_pos (by omega)]
     rw[this];exact hr _ (by omega))).1
    unfold kE at hk
    simp only[bu] at hk
    refine⟨cv,w,?_,.pure hH hq h2⟩
    simp[Instr.index,asIntOf,run_underlying hu,hb.1.1,hb.1.2,aX hk.2,h1]
  ·exact hq.elim
 ·exact hq.elim
theorem qIw{t:TypeId}{x:V reg.T}{f:Nat}{cx:Value}{Q:V reg.T×Hp reg.T→Prop}(hH:HR N F φ h w)(hq:(qF0 P t x f h).K Q)(hx:aA reg F w φ x cx):iZ P N F φ h w (Instr.field t cx f) Q:=by
 unfold qF0 at hq
 split at hq
 ·rename_i vs fs hu
  split at hq
  ·rename_i fl hf
   obtain⟨v,hv,hq⟩:=eD hq
   cases hx with
   | agg _ cs hz hr =>
    obtain⟨cv,h1,h2⟩:=qAt hz hr hv
    exact⟨cv,w,by simp[Instr.field,run_underlying hu,hf,asAgg,h1],.pure hH hq h2⟩
  ·exact hq.elim
 ·exact hq.elim
end
end Go.W
namespace Go.W
open Go Go.RowKit
section
variable {reg:Reg} {P:Program} {N F:Nat→Prop} {φ:Phi} {h:Hp reg.T} {w:World}
theorem wL:∀{xs:List (List (V reg.T))} {s:List UInt8},bytesOf xs=some s→s.length=xs.length∧∀r,r<xs.length→∃n:Int,xs.getD r []=[.d (.int .u8 n)]∧s.getD r 0=UInt8.ofNat n.toNat
 | [],s,h=>by simp only[bytesOf,cu] at h;subst h;exact⟨rfl,fun r hr=>by simp at hr⟩
 | x::xs,s,h=>by
  unfold bytesOf at h
  split at h
  ·rename_i heq;cases heq
  ·rename_i n l heq
   cases heq
   split at h
   ·rename_i r hr
    simp only[cu] at h
    subst h
    obtain⟨h1,h2⟩:=wL hr
    refine⟨by simp[h1],fun q hq=>?_⟩
    cases q with
    | zero=>exact⟨n,rfl,rfl⟩
    | succ q=>simpa using h2 q (by simpa using hq)
   ·cases h
  ·cases h
theorem qDm{rs:Rw reg.T}{s:List UInt8}(h:qDd rs=some s):s.length=rs.len∧∀r,r<rs.len→∃n:Int,rs.row reg r=[.d (.int .u8 n)]∧s.getD r 0=UInt8.ofNat n.toNat:=by
 cases rs with
 | u xs=>exact wL h
 | t e xs =>
  simp only[qDd] at h
  split at h
  ·rename_i hb
   simp only[cu] at h
   subst h
   refine⟨reg.toS_len e xs hb,fun r hr=>?_⟩
   obtain⟨n,h1,h2⟩:=reg.toS_get e xs r hb hr
   exact⟨n,by simp only[Rw.row];rw[h1];rfl,h2⟩
  ·cases h
theorem foldl_push:∀(ns:List Int) (r:ByteArray),ns.foldl (fun r n=>r.push (UInt8.ofNat n.toNat)) r=⟨r.data++(ns.map fun n=>UInt8.ofNat n.toNat).toArray⟩
 | [],r=>by simp
 | n::l,r=>by
  simp only[lv,kv]
  rw[foldl_push l]
  simp[ByteArray.push]
theorem qJ3{k n:Nat}{x:V reg.T}{cx:Value}{rs:Rw reg.T}(hsl:slv k x h=some (n,rs))(hx:aA reg F w φ x cx):∃base cap',cx=.slice base n cap':=by
 cases x with
 | d x =>
  cases hx with | d _ _ hd' =>
  have hl:x.len? reg=some n:=by
   simp only[slv] at hsl
   split at hsl
   ·rename_i m hm _;cases hsl;exact hm
   ·cases hsl
  cases hd'<;>(try (simp only[D.len?,reduceCtorEq] at hl;done))
  case nils=>simp only[D.len?,cu] at hl;subst hl;exact⟨none,0,rfl⟩
  case emp base cap hx1 hx2=>rw[hx2] at hl;cases hl;exact⟨base,cap,rfl⟩
  case sl n' a cap C t' fz hF hb hs hc hm hx1 hx2 hz hkr hr=>rw[hx2] at hl;cases hl;exact⟨_,cap,rfl⟩
 | sl i off len cap =>
  have hl:len=n:=by
   simp only[slv] at hsl
   split at hsl
   ·split at hsl
    ·cases hsl;rfl
    ·cases hsl
   ·cases hsl
  subst hl
  cases hx with
  | sl _ _ _ _ b s k z cap' hp hcr hlc hm hzz=>exact⟨_,cap',rfl⟩
  | slz _ _ _ base hcr=>exact⟨base,0,rfl⟩
 | _=>simp[slv] at hsl
theorem qEc{src dst:TypeId}{x:V reg.T}{cx:Value}{Q:V reg.T×Hp reg.T→Prop}(hH:HR N F φ h w)(hfr:∀r,Q r→bX N h.nx r.2.nx)(hq:(qAE P src dst x h).K Q)(hx:aA reg F w φ x cx):iZ P N F φ h w (convert src dst cx) Q:=by
 unfold qAE at hq
 split at hq
 ·rename_i ds k k' n hs hd
  rw[hx.aW]
  exact⟨_,w,by simp[convert,run_underlying hs,run_underlying hd,Conv.intToInt],.pure hH hq (.d _ _ (.int _ _))⟩
 ·rename_i ds s hs hd
  rw[hx.dR]
  exact⟨_,w,by simp[convert,run_underlying hs,run_underlying hd],.pure hH hq (.d _ _ (.str _))⟩
 ·
  rename_i ds e s hs hd
  rw[hx.dR]
  split at hq
  ·rename_i o hu hk1 ho
   have hu:=qF6 hu
   have hk1:=cz hk1
   obtain⟨hb,hq⟩:=Out.aO.1 hq
   have hb:s.length≤140737488355328:=bz hb
   obtain⟨hok,hq⟩:=jC hq
   obtain⟨g1,g2,g3,g4⟩:=jR ho
   obtain⟨s1,s2⟩:=qAI (reg:=reg) e s
   have hsz:(ByteArray.mk s.toArray).size=s.length:=by simp[ByteArray.size]
   have hrun:=Lib.run_convert_string_bytes (P:=P) w src dst e (ByteArray.mk s.toArray) hs hd hu
   rw[hsz] at hrun
   have hcap1:=grownCap_ge w s.length 0 e
   have hcap2:=grownCap_le_maxLen w s.length 0 e (by simp[maxLen];omega)
   have hC:(Lib.bytesCells w e (ByteArray.mk s.toArray)).size=grownCap w s.length 0 e:=by
    simp[Lib.bytesCells,hsz];omega
   have z0:(Rw.u []:Rw reg.T).len=0:=rfl
   rw[z0,s1,fe] at g3
   rw[z0,s1,fe] at g4
   refine⟨_,_,hrun,lF hH hq (dA hfr hq) hok rfl rfl rfl (by rw[Lib.bytesWorld_size];omega) (fun b hb=>Lib.bytesWorld_at_old w e _ b hb) (Lib.bytesWorld_at_new w e _) (.inr ⟨g2.trans hk1,dh _⟩) g1 (by rw[g3,g2,hk1,hC];omega) (by rw[g3];omega) ?_ ?_⟩
   ·rw[g3,g2,hk1]
    have hrow:∀r,r<s.length→bM [.d (.int .u8 (s.getD r 0).toNat)] (o.row reg r):=fun r hr=>by have:= g4 r hr;rw[if_neg (by omega),q9,s2 r hr] at this;exact this
    refine At.le (row:=fun r=>[.d (.int .u8 (s.getD r 0).toNat)]) ⟨fun r hr=>rfl,fun r j hr hj=>?_,fun r j hr hj=>?_⟩ hrow
    ·obtain rfl:j=0:=by omega
     rfl
    ·obtain rfl:j=0:=by omega
     rw[qi,ky]
     have e1:(Lib.bytesCells w e (ByteArray.mk s.toArray)).getD r undef=.int .u8 (s.getD r 0).toNat:=by
      simp only[Lib.bytesCells,dz]
      rw[o6 (by simp;exact hr)]
      simp[List.getD,hr]
     rw[e1]
     exact .d _ _ (.int _ _)
   ·intro φ' e1 e2
    rw[g2,hk1,hC] at e1
    have:= aA.sl (reg:=reg) (F:=F) (w:=Lib.bytesWorld w e (ByteArray.mk s.toArray)) (φ:=φ') h.nx 0 s.length (.least s.length) _ _ _ _ (grownCap w s.length 0 e) e1 hcap1 hcap1 (by simpa [maxLen] using hcap2) (by omega)
    simpa using this
  ·exact hq.elim
 ·
  rename_i es e i off len cap hs hd
  split at hq
  ·rename_i o hc ho
   simp only[bu] at hc
   have hsd:=cz hc.1
   have hu:=qF6 hc.2
   subst hsd
   rw[hs] at hd
   cases hd
   obtain⟨hrow,hq⟩:=Out.bG.1 hq
   rw[bu] at hrow
   obtain⟨hrow,hrow2⟩:=hrow
   obtain⟨hpos,hq⟩:=Out.aO.1 hq
   have hpos:0<len:=bz hpos
   ·cases hx with
    | sl _ _ _ _ b s k z cap' hp hcr hlc hm hzz =>
     obtain⟨h0,rfl,_,_,C,ct,fz,h1,h3,h2,hCz⟩:=lG hH ho hp hrow
     obtain⟨lo,hi⟩:=fz
     have hnew:(w.freeze ⟨b,C.size,none⟩ 1).heap[b]? = some (.cells C ct (if lo==hi then(C.size,C.size+1) else(min lo C.size,max hi (C.size+1)))):=by
      simp[World.freeze,nu,h1]
     have hold:∀b',b' ≠ b→(w.freeze ⟨b,C.size,none⟩ 1).heap[b']? = w.heap[b']?:=by
      intro b' hb'
      simp[World.freeze,nu,Ne.symm hb']
     have hrun:(convert src src (.slice (some ⟨b,s+off*o.k reg,none⟩) len cap')).run P w=.ok (.slice (some ⟨b,s+off*o.k reg,none⟩) len cap') (w.freeze ⟨b,C.size,none⟩ 1):=by
      have hsh:w.shape? b=some (ct,C.size):=by simp[World.shape?,h1]
      simp[convert,run_underlying hs,run_underlying hu,markStringish,hsh,Result.andThen]
     have hk1:o.k reg=1:=cz hrow2
     have hfree:free (o.k reg) C (if lo==hi then(C.size,C.size+1) else(min lo C.size,max hi (C.size+1))):=by
      unfold free at *
      by_cases he:lo=hi
      ·right;simp[he,hk1]
      ·have h4:(lo==hi)=false:=by simpa using he
       rw[h4]
       simp only[iy,if_false]
       simp only at h3
       right
       exact⟨hk1,by omega⟩
     exact⟨_,_,hrun,nN hH ho hp hCz hq (by simp[World.freeze]) (by simp[World.freeze]) (by simp[World.freeze]) (by simp[World.freeze]) hold hnew hfree h0 rfl h2 (.sl _ _ _ _ b s _ z cap' hp hcr hlc hm hzz)⟩
    | slz _ _ _ base hcr=>omega
  ·exact hq.elim
 ·
  rename_i e hs hd hno
  split at hq
  ·rename_i p0 n rs hc hsl0
   have hp0:=(Out.aO.1 hq).1
   replace hq:=(Out.aO.1 hq).2
   have hsl:=qG8 hsl0 hp0
   simp only[bu] at hc
   have hu:=qF6 hc.1
   split at hq
   ·rename_i s hb
    obtain⟨news,hy⟩:=qDi (P:=P) (tx:=src) hH (.inl ⟨e,hs⟩) hsl hx
    obtain⟨b1,b2⟩:=qDm hb
    rw[hy.len] at b1 b2
    have hform:=qJ3 hsl hx
    obtain⟨base,cap',rfl⟩:=hform
    have hnl:=hy.src.newsLen
    rw[qi] at hnl
    have hcells:∀r,r<n→∃m:Int,news.getD r undef=.int .u8 m∧s.getD r 0=UInt8.ofNat m.toNat:=by
     intro r hr
     obtain⟨m,e1,e2⟩:=b2 r hr
     have:= hy.at_.rel r 0 hr (by omega)
     rw[e1,qi,ky] at this
     exact⟨m,this.aW,e2⟩
    have hns:∃ns:List Int,news=ns.map (Value.int .u8)∧s=ns.map fun m=>UInt8.ofNat m.toNat:=by
     have key:∀(news:List Value) (s:List UInt8),s.length=news.length→(∀r,r<news.length→∃m:Int,news.getD r undef=.int .u8 m∧s.getD r 0=UInt8.ofNat m.toNat)→∃ns:List Int,news=ns.map (Value.int .u8)∧s=ns.map fun m=>UInt8.ofNat m.toNat:=by
      intro news
      induction news with
      | nil=>intro s hl _;exact⟨[],rfl,by simpa using hl⟩
      | cons v news ih =>
       intro s hl hc
       cases s with
       | nil=>simp at hl
       | cons b s =>
        obtain⟨m,e1,e2⟩:=hc 0 (by simp)
        obtain⟨ns,e3,e4⟩:=ih s (by simpa using hl) (fun r hr=>by simpa using hc (r+1) (by simpa using hr))
        exact⟨m::ns,by simp at e1;simp[e1,←e3],by simp at e2;simp[e2,←e4]⟩
     exact key news s (by omega) (fun r hr=>hcells r (by omega))
    obtain⟨ns,rfl,rfl⟩:=hns
    refine⟨.string ⟨(ns.map fun m=>UInt8.ofNat m.toNat).toArray⟩,w,?_,.pure hH hq (.d _ _ (.str _))⟩
    rw[run_convert_bytes_string w src dst e base n cap' hs hu hd]
    cases base with
    | none =>
     have hn0:ns=[]:=by
      have:= hy.src.cells
      simp[Builtin.firstCells] at this
      exact this
     subst hn0
     simp[Conv.bytesToString,ByteArray.empty,ByteArray.emptyWithCapacity]
     rfl
    | some a =>
     have hl:=hy.src.cells
     simp only[Builtin.firstCells,qi] at hl
     rw[run_bytesToString w a n cap' ns hl,foldl_push]
     have e0:ByteArray.empty.data = #[]:=rfl
     rw[e0,Array.empty_append]
   ·exact hq.elim
  ·exact hq.elim
 ·exact hq.elim
end
end Go.W
namespace Go.W
open Go Go.RowKit
section
variable {reg:Reg} {P:Program} {N F:Nat→Prop} {φ:Phi} {h:Hp reg.T} {w:World}
theorem yM{place:Nat→Option (Nat×Nat)} :
  ∀(parts:List (Nat×Option (V reg.T))) (cparts:List (Nat×Value)) (vs us:List (V reg.T)) (C:Array Value),zQ place parts vs=some us→parts.map (·.1)=cparts.map (·.1) →
   (∀(i:Nat) p q v,parts[i]? = some p→cparts[i]? = some q→p.2=some v→aA reg F w φ v q.2)→vs.length=C.size→(∀j,j<vs.length→aA reg F w φ (vs.getD j .any) (C.getD j undef)) →
   ∃C',Instr.fill place C cparts=some C'∧us.length=C'.size∧C'.size=C.size∧∀j,j<us.length→aA reg F w φ (us.getD j .any) (C'.getD j undef):=by
 intro parts
 induction parts with
 | nil =>
  intro cparts vs us C h he _ hl hv
  simp only[zQ,cu] at h
  subst h
  cases cparts with
  | nil=>exact⟨C,rfl,hl,rfl,hv⟩
  | cons q r=>simp at he
 | cons p parts ih =>
  intro cparts vs us C h he hr hl hv
  obtain⟨f,ov⟩:=p
  cases cparts with
  | nil=>simp at he
  | cons q r =>
   obtain⟨f',cv⟩:=q
   simp only[kv,List.cons.injEq] at he
   obtain⟨rfl,he⟩:=he
   cases ov with
   | none=>simp[zQ] at h
   | some v =>
    simp only[zQ] at h
    split at h
    ·rename_i off size hfl
     split at h
     ·rename_i e1 e2 e3
      have e2:=cz e2
      have e3:off+v.cells.length≤vs.length:=bz e3
      have hrel:aA reg F w φ v cv:=hr 0 (f,some v) (f,cv) v (by simp) (by simp) rfl
      obtain⟨hc1,hc2⟩:=qCo hrel e1
      obtain⟨g1,g2⟩:=wI (o:=off) hl hv hc1 hc2 e3
      obtain⟨C',k1,k2,k3,k4⟩:=ih r _ us _ h he (fun i p q v' hp hq hv'=>hr (i+1) p q v' (by simpa using hp) (by simpa using hq) hv') g1 g2
      refine⟨C',?_,k2,by rw[k3,fA],k4⟩
      simp only[Instr.fill,hfl]
      have hno:¬(decide (cv.cells.size≠size)||decide (off+cv.cells.size>C.size))=true:=by
       simp only[jm,decide_eq_true_eq]
       omega
      rw[if_neg hno]
      have e4:cv.cells.zipIdx.foldl (fun cs x=>cs.setIfInBounds (off+x.2) x.1) C=wrC C off cv.cells.toList:=by
       rw[←Array.foldl_toList,Array.toList_zipIdx,qIp]
       rfl
      exact(congrArg (fun z=>Instr.fill place z r) e4).trans k1
     ·simp at h
    ·simp at h
theorem qF8{t:TypeId}{parts:List (Nat×Option (V reg.T))}{v:V reg.T}(h:qF1 P t parts=some v)(cparts:Array (Nat×Value))(he:parts.map (·.1)=cparts.toList.map (·.1))
  (hr:∀(i:Nat) p q v,parts[i]? = some p→cparts.toList[i]? = some q→p.2=some v→aA reg F w φ v q.2):∃cv,(Instr.build t cparts).run P w=.ok cv w∧aA reg F w φ v cv:=by
 unfold qF1 at h
 split at h
 ·rename_i fs hu
  split at h
  ·rename_i z hall hz
   split at h
   ·rename_i vs hvs
    simp only[cu] at h
    subst h
    obtain⟨i,zv,h1,h2,h3,h4⟩:=fE (F:=F) (w:=w) (φ:=φ) hz
    have hm:∃places,fs.toList.mapM (fun f=>(P.info? f.type).map fun i=>(f.offset,i.size))=some places∧places=fs.toList.map fun f=>(f.offset,P.cellsOf f.type):=by
     have key:∀l:List Field,l.all (fun f=>(P.info? f.type).isSome)=true→∃places,l.mapM (fun f=>(P.info? f.type).map fun i=>(f.offset,i.size))=some places∧places=l.map fun f=>(f.offset,P.cellsOf f.type):=by
      intro l
      induction l with
      | nil=>intro _;exact⟨[],rfl,rfl⟩
      | cons a l ih =>
       intro hl
       simp only[ow,bu] at hl
       obtain⟨ps,hps,hps'⟩:=ih hl.2
       obtain⟨ia,hia⟩:=jl.1 hl.1
       refine⟨(a.offset,ia.size)::ps,by rw[qy,hia,hps];rfl,?_⟩
       rw[kv,hps']
       simp[Program.cellsOf,hia]
     exact key _ hall
    obtain⟨places,hp,hpl⟩:=hm
    have hpp:(fun i:Nat=>(fs[i]?).map fun f:Field=>(f.offset,P.cellsOf f.type))=(fun x:Nat=>places.toArray[x]?):=by
     funext x
     rw[hpl]
     simp
    rw[hpp] at hvs
    obtain⟨C',k1,k2,_,k3⟩:=yM parts cparts.toList z vs zv.cells hvs he hr h3 (fun j hj=>(h4 j hj).1)
    refine⟨.agg C',run_build w t cparts C' ?_,.agg _ _ k2 k3⟩
    unfold Program.built
    rw[h1,hu]
    simp only[h2,hp]
    exact k1
   ·simp at h
  ·simp at h
 ·rename_i m e hu
  split at h
  ·rename_i z hie hz
   split at h
   ·rename_i vs hvs
    simp only[cu] at h
    subst h
    obtain⟨i,zv,h1,h2,h3,h4⟩:=fE (F:=F) (w:=w) (φ:=φ) hz
    obtain⟨ie,hie',hsz,_⟩:=qAr hie
    obtain⟨C',k1,k2,_,k3⟩:=yM parts cparts.toList z vs zv.cells hvs he hr h3 (fun j hj=>(h4 j hj).1)
    refine⟨.agg C',run_build w t cparts C' ?_,.agg _ _ k2 k3⟩
    unfold Program.built
    rw[h1,hu]
    simp only[h2,hie',hsz]
    exact k1
   ·simp at h
  ·simp at h
 ·simp at h
theorem qCq{α:Type}(k:Nat):∀(n:Nat) (l:List α),l.length=n*k→(qDR k n l).length=n∧∀r,r<n→∀d:List α,(qDR k n l).getD r d=(l.drop (r*k)).take k
 | 0,l,_=>⟨rfl,fun r hr=>by omega⟩
 | n+1,l,hl=>by
  rw[j3] at hl
  obtain⟨h1,h2⟩:=qCq k n (l.drop k) (by simp;omega)
  refine⟨by simp[qDR,h1],fun r hr d=>?_⟩
  cases r with
  | zero=>simp[qDR]
  | succ r =>
   simp only[qDR]
   have:= h2 r (by omega) d
   rw[List.getD_cons_succ,this,pz]
   congr 2
   rw[j3,Nat.add_comm]
theorem iU{α:Type}(z:List α)(d:α):∀(n j:Nat),j<n*z.length→((List.replicate n z).flatten).getD j d=z.getD (j % z.length) d
 | 0,j,hj=>by simp at hj
 | n+1,j,hj=>by
  rw[List.replicate_succ,List.flatten_cons,dD]
  split
  ·rename_i hlt;rw[qg hlt]
  ·rename_i hge
   rw[j3] at hj
   rw[iU z d n _ (by omega)]
   congr 1
   rw[←Nat.mod_eq_sub_mod (by omega)]
theorem qAJ{t:TypeId}{len:Nat}{parts:List (Nat×Option (V reg.T))}{Q:V reg.T×Hp reg.T→Prop}(hH:HR N F φ h w)(hfr:∀r,Q r→bX N h.nx r.2.nx)(hq:(qV P t len parts h).K Q)(cparts:Array (Nat×Value))(he:parts.map (·.1)=cparts.toList.map (·.1))
  (hr:∀(i:Nat) p q v,parts[i]? = some p→cparts.toList[i]? = some q→p.2=some v→aA reg F w φ v q.2):iZ P N F φ h w (Instr.buildSlice t len cparts) Q:=by
 unfold qV at hq
 split at hq
 ·rename_i e ht
  have ht:=bO ht
  split at hq
  ·rename_i z hz
   split at hq
   ·rename_i cs hcs
    split at hq
    ·rename_i o ho
     obtain⟨hb,hq⟩:=Out.aO.1 hq
     simp only[bu] at hb
     obtain⟨⟨⟨⟨hb1,hb2⟩,hb3⟩,hb4⟩,hb5⟩:=hb
     have hb1:len*P.cellsOf e≤16777216:=bz hb1
     have hb2:=cz hb2
     have hb4:0<P.cellsOf e:=bz hb4
     obtain⟨hok,hq⟩:=jC hq
     obtain⟨inf,zv,hinf,hzz,h3,h4⟩:=fE (F:=F) (w:=w) (φ:=φ) hz
     have hsz:inf.size=P.cellsOf e:=by simp[Program.cellsOf,hinf]
     have hzs:zv.cells.size=P.cellsOf e:=by omega
     have hz0:((List.replicate len z).flatten).length=len*P.cellsOf e:=by simp[hb2]
     have hm0:(madeCells zv.cells (len*P.cellsOf e)).size=len*P.cellsOf e:=size_madeCells _ _
     have hrel0:∀j,j<((List.replicate len z).flatten).length→aA reg F w φ (((List.replicate len z).flatten).getD j .any) ((madeCells zv.cells (len*P.cellsOf e)).getD j undef):=by
      intro j hj
      rw[hz0] at hj
      have h6:j % P.cellsOf e<P.cellsOf e:=Nat.mod_lt _ hb4
      rw[iU z .any len j (by rw[hb2];exact hj),hb2]
      have e1:(madeCells zv.cells (len*P.cellsOf e)).getD j undef=zv.cells.getD (j % P.cellsOf e) undef:=by
       simp[madeCells,Array.getD,hj,hzs,h6]
      rw[e1]
      exact(h4 _ (by omega)).1
     obtain⟨C',k1,k2,k3,k4⟩:=yM parts cparts.toList _ cs (madeCells zv.cells (len*P.cellsOf e)) hcs he hr (by rw[hz0,hm0]) hrel0
     rw[hm0] at k3
     obtain⟨g1,g2,g3,g4⟩:=jR ho
     have hz1:(Rw.u []:Rw reg.T).len=0:=rfl
     have hcl:cs.length=len*P.cellsOf e:=by omega
     obtain⟨c1,c2⟩:=qCq (P.cellsOf e) len cs hcl
     have hz2:(Rw.u (qDR (P.cellsOf e) len cs):Rw reg.T).len=len:=c1
     rw[hz1,hz2,fe] at g3
     rw[hz1,hz2,fe] at g4
     have hrow:∀r,r<len→bM ((cs.drop (r*P.cellsOf e)).take (P.cellsOf e)) (o.row reg r):=by
      intro r hr'
      have:= g4 r hr'
      rw[if_neg (by omega),q9] at this
      rw[←c2 r hr' []]
      exact this
     have hrun:(Instr.buildSlice t len cparts).run P w=.ok (.slice (some ⟨w.heap.size,0,none⟩) len len) (w.alloc (.cells C' e)):=by
      have hno:¬16777216<len*P.cellsOf e:=by omega
      by_cases hl0:len*P.cellsOf e=0
      ·have hk1':Instr.fill (fun i=>some (i*P.cellsOf e,P.cellsOf e)) #[] cparts.toList=some C':=by
        have: madeCells zv.cells (len*P.cellsOf e) = #[]:=Array.eq_empty_of_size_eq_zero (by rw[size_madeCells];exact hl0)
        rwa [this] at k1
       simp[Instr.buildSlice,run_underlying ht,sizeOf,typeInfo,hinf,hsz,hl0,hk1',newRow,Array.range_zero']
      ·have hk1':Instr.fill (fun i=>some (i*P.cellsOf e,P.cellsOf e)) ((Array.range (len*P.cellsOf e)).map (zv.cells[·% zv.cells.size]!)) cparts.toList=some C':=k1
       simp[Instr.buildSlice,run_underlying ht,sizeOf,typeInfo,zeroValue,hinf,hzz,hsz,hno,hl0,hk1',newRow]
     have hgd:∀r j,r<len→j<P.cellsOf e→((cs.drop (r*P.cellsOf e)).take (P.cellsOf e)).getD j .any=cs.getD (r*P.cellsOf e+j) .any:=by
      intro r j _ hj
      simp only[List.getD,gy,ic,if_pos hj]
     have hlt:∀r j,r<len→j<P.cellsOf e→r*P.cellsOf e+j<len*P.cellsOf e:=by
      intro r j hr' hj
      have: (r+1)*P.cellsOf e≤len*P.cellsOf e:=df _ hr'
      rw[j3] at this
      omega
     refine⟨_,_,hrun,lF hH hq (dA hfr hq) hok rfl rfl rfl (by simp) (fun b hb=>?_) (C:=C') (t:=e) (fz:=(0,0)) (heap_alloc_new w _) (.inl rfl) g1 (by rw[g3,g2];omega) (by rw[g3];have: len*1≤len*P.cellsOf e:=Nat.mul_le_mul_left _ hb4;omega) ?_ ?_⟩
     ·show(w.heap.push _)[b]? = _
      rw[jr,if_neg (by omega)]
     ·rw[g3,g2]
      refine At.le (row:=fun r=>(cs.drop (r*P.cellsOf e)).take (P.cellsOf e)) ⟨fun r hr'=>?_,fun r j hr' hj=>?_,fun r j hr' hj=>?_⟩ hrow
      ·rw[il,ko]
       have:= hlt r (P.cellsOf e-1) hr' (by omega)
       omega
      ·rw[hgd r j hr' hj]
       exact sN hb5 (by have:= hlt r j hr' hj;omega)
      ·rw[hgd r j hr' hj]
       exact k4 _ (by have:= hlt r j hr' hj;omega)
     ·intro φ' e1 e2
      rw[g2] at e1
      have:= aA.sl (reg:=reg) (F:=F) (w:=w.alloc (.cells C' e)) (φ:=φ') h.nx 0 len (.exact len) _ _ _ _ len e1 rfl (dh _) (by have: len*1≤len*P.cellsOf e:=Nat.mul_le_mul_left _ hb4;omega) (by omega)
      simpa using this
    ·exact hq.elim
   ·exact hq.elim
  ·exact hq.elim
 ·exact hq.elim
end
end Go.W
namespace Go.W
open Go Go.RowKit Go.MapKept
section
variable {reg:Reg} {P:Program}
theorem qDn{N F:Nat→Prop}{φ:Phi}{h:Hp reg.T}{w w':World}{Q:V reg.T×Hp reg.T→Prop}{o:O reg.T}{v:V reg.T}{cv:Value}{s0 k0 z0:Nat}
  (hH:HR N F φ h w) (hq:Q (v,h.new o)) (hN:¬N h.nx) (hk:Tr.ok h.nx=true) (hos:w'.os=w.os) (htp:w'.tape=w.tape) (hout:w'.output=w.output) (hsz:w.heap.size<w'.heap.size)
  (hold:∀b,b<w.heap.size→w'.heap[b]? = w.heap[b]?)
  (hobj:∀φ',φ' h.nx=some (w.heap.size,s0,k0,z0)→(∀i p,φ i=some p→φ' i=some p)→eZ reg F w' φ' h.nx o)
  (hv:∀φ',φ' h.nx=some (w.heap.size,s0,k0,z0)→(∀i p,φ i=some p→φ' i=some p)→aA reg F w' φ' v cv):Res N F φ h w Q cv w':=by
 let φ':Phi:=fun i=>if i=h.nx then some (w.heap.size,s0,k0,z0) else φ i
 have e1:φ' h.nx=some (w.heap.size,s0,k0,z0):=if_pos rfl
 have e2:∀i,i≠h.nx→φ' i=φ i:=fun i hi=>if_neg hi
 have hφ:∀i p,φ i=some p→φ' i=some p:=fun i p hp=>by rw[e2 i (fun e=>hN (e▸hH.dom i p hp))];exact hp
 have hm:∀b,F b→F b∧w'.heap[b]? = w.heap[b]?:=fun b hb=>⟨hb,hold b (hH.frz b hb)⟩
 have hg:∀j,(h.new o).get j=if j=h.nx then some o else h.get j:=wF hk
 have lt:∀j o',(h.new o).get j=some o'→j≠h.nx→h.get j=some o'∧N j:=fun j o' hj hn=>by
  rw[hg,if_neg hn] at hj
  exact⟨hj,hH.lt j o' hj⟩
 refine⟨v,h.new o,fun i=>N i∨i=h.nx,F,φ',hq,hv φ' e1 hφ,⟨fun j o' hj=>?_,fun j o' b s k hj hp=>?_,fun a c oa oc b s k s' k' ha hc hpa hpc=>?_,fun j p hp=>?_,fun j o' hj=>?_,fun j hj=>?_,fun b hb=>Nat.lt_trans (hH.frz b hb) hsz,hH.lay.mono reg hm⟩,⟨hos,htp,hout,Nat.le_of_lt hsz,fun b hb _=>hold b hb,fun _ hf=>hf,fun _ hf=>.inl hf,fun i hi=>?_,fun i hi=>?_,fun b hb=>?_,fun i p hp=>?_⟩,Grow.new hk,fun i hi=>hi.imp id (fun e=>by rw[qDg];omega)⟩
 ·by_cases hj':j=h.nx
  ·subst hj'
   rw[hg,if_pos rfl] at hj
   cases hj
   exact hobj φ' e1 hφ
  ·obtain⟨h1,h2⟩:=lt j o' hj hj'
   exact(hH.obj j o' h1).mono reg hm hφ (fun hn=>by rw[e2 j hj'];exact hn) (fun b s k hp=>hold b (hH.own j o' b s k h1 hp).2)
 ·by_cases hj':j=h.nx
  ·subst hj'
   rw[e1] at hp
   simp only[cu,dx] at hp
   obtain⟨rfl,_⟩:=hp
   exact⟨fun hf=>by have:= hH.frz _ hf;omega,hsz⟩
  ·obtain⟨h1,h2⟩:=lt j o' hj hj'
   rw[e2 j hj'] at hp
   have:= hH.own j o' b s k h1 hp
   exact⟨this.1,Nat.lt_trans this.2 hsz⟩
 ·by_cases ha':a=h.nx
  ·by_cases hc':c=h.nx
   ·rw[ha',hc']
   ·subst ha'
    obtain⟨h1,_⟩:=lt c oc hc hc'
    rw[e1] at hpa
    rw[e2 c hc'] at hpc
    simp only[cu,dx] at hpa
    have:= (hH.own c oc b s' k' h1 hpc).2
    omega
  ·obtain⟨h1,_⟩:=lt a oa ha ha'
   rw[e2 a ha'] at hpa
   by_cases hc':c=h.nx
   ·subst hc'
    rw[e1] at hpc
    simp only[cu,dx] at hpc
    have:= (hH.own a oa b s k h1 hpa).2
    omega
   ·obtain⟨h2,_⟩:=lt c oc hc hc'
    rw[e2 c hc'] at hpc
    exact hH.inj a c oa oc b s k s' k' h1 h2 hpa hpc
 ·by_cases hj':j=h.nx
  ·exact .inr hj'
  ·rw[e2 j hj'] at hp;exact .inl (hH.dom j p hp)
 ·by_cases hj':j=h.nx
  ·exact .inr hj'
  ·exact .inl (lt j o' hj hj').2
 ·rcases hj with hj | he
  ·exact hH.ok j hj
  ·rw[he];exact hk
 ·exact e2 i (fun e=>hN (e▸hi))
 ·exact .inl hi
 ·obtain⟨j,o',s,k,hj,hp⟩:=hb
  by_cases hj':j=h.nx
  ·subst hj'
   rw[e1] at hp
   simp only[cu,dx] at hp
   exact .inr (by omega)
  ·rw[e2 j hj'] at hp
   exact .inl ⟨j,o',s,k,(lt j o' hj hj').1,hp⟩
 ·by_cases hj':i=h.nx
  ·subst hj'
   rw[e1] at hp
   cases hp
   exact .inr (.inl (dh _))
  ·rw[e2 i hj'] at hp
   exact .inl (hH.dom i p hp)
theorem qJ4{N F:Nat→Prop}{φ:Phi}{h:Hp reg.T}{w w':World}{Q:V reg.T×Hp reg.T→Prop}{i b s:Nat}{k0:Nat×Nat}{o o':O reg.T}{v:V reg.T}{cv:Value}
  (hH:HR N F φ h w) (hi:h.get i=some o) (hp:φ i=some (b,s,k0)) (hq:Q (v,h.set i (some o'))) (hos:w'.os=w.os) (htp:w'.tape=w.tape) (hout:w'.output=w.output)
  (hsz:w'.heap.size=w.heap.size) (hold:∀b',b' ≠ b→w'.heap[b']? = w.heap[b']?)
  (hobj:(∀b',F b'→F b'∧w'.heap[b']? = w.heap[b']?)→eZ reg F w' φ i o') (hv:aA reg F w φ v cv):Res N F φ h w Q cv w':=by
 have hk:=hH.ok i (hH.lt i o hi)
 have hfb:=hH.own i o b s _ hi hp
 have hm:∀b',F b'→F b'∧w'.heap[b']? = w.heap[b']?:=fun b' hb=>⟨hb,hold b' (fun e=>hfb.1 (e▸hb))⟩
 have hg:∀j,(h.set i (some o')).get j=if j=i then some o' else h.get j:=jT hk
 have lt:∀j oj,(h.set i (some o')).get j=some oj→∃oj',h.get j=some oj'∧(j≠i→oj' = oj):=fun j oj hj=>by
  rw[hg] at hj
  split at hj
  ·rename_i e;exact⟨o,e▸hi,fun hn=>absurd e hn⟩
  ·exact⟨oj,hj,fun _=>rfl⟩
 refine⟨v,_,N,F,φ,hq,hv.mono reg hm (fun _ _ e=>e),⟨fun j oj hj=>?_,fun j oj b' s' k' hj hp'=>?_,fun a c oa oc b' s' k' s'' k'' ha hc hpa hpc=>?_,hH.dom,fun j oj hj=>?_,hH.ok,fun b' hb=>hsz▸hH.frz b' hb,hH.lay.mono reg hm⟩,
  ⟨hos,htp,hout,Nat.le_of_eq hsz.symm,fun b' _ hn=>hold b' (fun e=>hn ⟨i,o,s,_,hi,e▸hp⟩),fun _ hf=>hf,fun _ hf=>.inl hf,fun _ _=>rfl,fun _ hx=>hx,fun b' ⟨j,oj,s',k',hj,hp'⟩=>?_,fun j p hp'=>.inl (hH.dom j p hp')⟩,Grow.set hk,fun _ hx=>.inl hx⟩
 ·by_cases hji:j=i
  ·subst hji
   rw[hg,if_pos rfl] at hj
   cases hj
   exact hobj hm
  ·rw[hg,if_neg hji] at hj
   exact(hH.obj j oj hj).mono reg hm (fun _ _ e=>e) (fun e=>e) (fun b' s' k' hp'=>hold b' (fun e=>hji (hH.inj j i oj o b' s' k' s _ hj hi hp' (e▸hp))))
 ·obtain⟨oj',h1,_⟩:=lt j oj hj
  have:= hH.own j oj' b' s' k' h1 hp'
  exact⟨this.1,hsz▸this.2⟩
 ·obtain⟨oa',h1,_⟩:=lt a oa ha
  obtain⟨oc',h2,_⟩:=lt c oc hc
  exact hH.inj a c oa' oc' b' s' k' s'' k'' h1 h2 hpa hpc
 ·obtain⟨oj',h1,_⟩:=lt j oj hj
  exact hH.lt j oj' h1
 ·obtain⟨oj',h1,_⟩:=lt j oj hj
  exact .inl ⟨j,oj',s',k',h1,hp'⟩
variable {N F:Nat→Prop} {φ:Phi} {h:Hp reg.T} {w:World}
theorem sP{t kt et:TypeId}(h:qDQ P t=some (kt,et)):P.underlying t=some (.map kt et):=by
 unfold qDQ at h
 split at h
 ·rename_i k e hu;cases h;exact hu
 ·cases h
theorem qCr{t:TypeId}{v:V reg.T}(h:zeroV P t=some v):∃i z,P.info? t=some i∧i.zero=some z∧∀{F:Nat→Prop} {w:World} {φ:Phi},aA reg F w φ v z:=by
 unfold zeroV at h
 split at h
 ·rename_i i hi
  split at h
  ·rename_i cs vs hz hv
   cases h
   refine⟨i,_,hi,hz,fun{F w φ}=>?_⟩
   obtain⟨i',z',h1,h2,h3,h4⟩:=fE (F:=F) (w:=w) (φ:=φ) hv
   rw[hi] at h1;cases h1
   rw[hz] at h2;cases h2
   exact .agg vs cs h3 (fun j hj=>(h4 j hj).1)
  ·cases h
  ·rename_i zc v' hna hnt hz hv
   cases h
   refine⟨i,zc,hi,hz,fun{F w φ}=>?_⟩
   obtain⟨i',z',h1,h2,h3,h4⟩:=fE (F:=F) (w:=w) (φ:=φ) hv
   obtain rfl:=ik (hi.symm.trans h1)
   obtain rfl:=ik (hz.symm.trans h2)
   have e:zc.cells = #[zc]:=by
    cases zc<;>first | rfl | exact(hna _ rfl).elim
   have:= (h4 0 (by simp)).1
   rw[e] at this
   exact this
  ·cases h
 ·cases h
theorem kJ{kt:TypeId}{k:V reg.T}{c:Value}(h:sK P kt k=true)(hk:aA reg F w φ k c):∃d,P.underlying kt=some d∧IsKey d c:=by
 unfold sK at h
 split at h
 ·rename_i k1 k2 n hu
  rw[hk.aW]
  exact⟨_,hu,(fV h).symm⟩
 ·rename_i s hu
  rw[hk.dR]
  exact⟨_,hu,trivial⟩
 ·rename_i b hu
  rw[hk.fB]
  exact⟨_,hu,trivial⟩
 ·cases h
theorem qF9{k k':V reg.T}{c c':Value}{b:Bool}{d:TypeDesc}(h:qJv k k' = some b)(hk:aA reg F w φ k c)(hk':aA reg F w φ k' c')(hd:IsKey d c):Instr.sameNow d c c' = some b∧(b=true→c' = c):=by
 unfold qJv at h
 split at h
 ·rename_i a x a' y
  rw[hk.aW] at hd ⊢
  rw[hk'.aW]
  split at h
  ·rename_i hs
   have hs:=fV hs
   subst hs
   cases h
   cases d<;>simp only[IsKey] at hd<;>(try exact hd.elim)
   refine⟨by simp[Instr.sameNow],fun hb=>?_⟩
   have: x=y:=by simpa using hb
   rw[this]
  ·cases h
 ·rename_i s t
  rw[hk.dR] at hd ⊢
  rw[hk'.dR]
  cases h
  cases d<;>simp only[IsKey] at hd<;>(try exact hd.elim)
  have e:((⟨s.toArray⟩:ByteArray)==⟨t.toArray⟩)=(s==t):=by
   rw[jc,bytes_beq]
   simp
  refine⟨by simp[Instr.sameNow,e],fun hb=>?_⟩
  have: s=t:=by simpa using hb
  rw[this]
 ·rename_i a b'
  rw[hk.fB] at hd ⊢
  rw[hk'.fB]
  cases h
  cases d<;>simp only[IsKey] at hd<;>(try exact hd.elim)
  refine⟨by simp[Instr.sameNow],fun hb=>?_⟩
  have: a=b':=by simpa using hb
  rw[this]
 ·cases h
theorem uZ{β:Type}{k:V reg.T}{c:Value}{d:TypeDesc}(hk:aA reg F w φ k c)(hd:IsKey d c){Q:β→Prop}:∀{es:List ((V reg.T×V reg.T)×Nat)} {cs:List MapEntry},gT reg F w φ es cs→∀(j:Nat) (found:Nat→V reg.T→Nat→Out β) (none':Out β),(sM k es j found none').K Q →
  (Instr.findNow d c cs j=some none∧none'.K Q)∨∃i e v n,Instr.findNow d c cs j=some (some (j+i,e.val))∧cs[i]? = some e∧e.key=c∧aA reg F w φ v e.val∧e.born=n∧(found (j+i) v n).K Q:=by
 intro es cs he
 induction he with
 | nil=>intro j found none' hq;exact .inl ⟨rfl,hq⟩
 | cons k' v n e es cs hk' hv hn _ ih =>
  intro j found none' hq
  simp only[sM] at hq
  split at hq
  ·rename_i b hb
   obtain⟨h1,h2⟩:=qF9 hb hk hk' hd
   simp only[Out.K,dY] at hq
   cases b with
   | true=>exact .inr ⟨0,e,v,n,by simp[Instr.findNow,h1],rfl,h2 rfl,hv,hn,hq.1 rfl⟩
   | false =>
    rcases ih (j+1) found none' (hq.2 rfl) with⟨h3,h4⟩ | ⟨i,e',v',n',h3,h4,h5,h6,h7,h8⟩
    ·exact .inl ⟨by simp[Instr.findNow,h1,h3],h4⟩
    ·refine .inr ⟨i+1,e',v',n',?_,by simpa using h4,h5,h6,h7,?_⟩
     ·simp only[Instr.findNow,h1,h3];congr 3;omega
     ·rwa [show j+(i+1)=j+1+i by omega]
  ·exact hq.elim
theorem gT.qW{v:V reg.T}{cv:Value}(hv:aA reg F w φ v cv)(f:MapEntry→MapEntry)(hf:∀e,(f e).val=cv∧(f e).born=e.born):∀{es:List ((V reg.T×V reg.T)×Nat)} {cs:List MapEntry},gT reg F w φ es cs→∀(i:Nat),(∀e,cs[i]? = some e→(f e).key=e.key)→gT reg F w φ (qW i v es) (cs.modify i f):=by
 intro es cs he
 induction he with
 | nil=>intro i _;simp only[Go.W.qW,List.modify_nil];exact .nil
 | cons k' v' n e es cs hk' hv' hn ht ih =>
  intro i hi
  cases i with
  | zero =>
   simp only[Go.W.qW,List.modify_zero_cons]
   exact .cons k' v n (f e) es cs (by rw[hi e rfl];exact hk') (by rw[(hf e).1];exact hv) (by rw[(hf e).2];exact hn) ht
  | succ i =>
   simp only[Go.W.qW,List.modify_succ_cons]
   exact .cons k' v' n e _ _ hk' hv' hn (ih i (fun e' he'=>hi e' (by simpa using he')))
theorem gT.push{k v:V reg.T}{c:MapEntry}(hk:aA reg F w φ k c.key)(hv:aA reg F w φ v c.val):∀{es:List ((V reg.T×V reg.T)×Nat)} {cs:List MapEntry},gT reg F w φ es cs→gT reg F w φ (es++[((k,v),c.born)]) (cs++[c]):=by
 intro es cs he
 induction he with
 | nil=>exact .cons k v _ c [] [] hk hv rfl .nil
 | cons k' v' n e es cs hk' hv' hn _ ih=>exact .cons k' v' n e _ _ hk' hv' hn ih
theorem gT.length{es:List ((V reg.T×V reg.T)×Nat)}{cs:List MapEntry}(h:gT reg F w φ es cs):es.length=cs.length:=by
 induction h with
 | nil=>rfl
 | cons _ _ _ _ _ _ _ _ _ _ ih=>simp[ih]
theorem rA{i c:Nat}{es:List ((V reg.T×V reg.T)×Nat)}{cv:Value}(hH:HR N F φ h w)(hi:h.get i=some (.map c es))(hv:aA reg F w φ (.mp i) cv) :
  ∃b ces,cv=.map (some b)∧φ i=some (b,0,0,0)∧w.heap[b]? = some (.map ces c)∧gT reg F w φ es ces.toList:=by
 obtain⟨b,ces,h1,h2,h3⟩:=(hH.obj i _ hi).map reg
 cases hv with
 | mp _ b' s hp =>
  rw[h1] at hp
  cases hp
  exact⟨b,ces,rfl,h1,h2,h3⟩
theorem zW{t:TypeId}{r:Option Value}{Q:V reg.T×Hp reg.T→Prop}(hH:HR N F φ h w)(hfr:∀r,Q r→bX N h.nx r.2.nx)(hq:(wD P t h).K Q)(hr:r=none∨∃k n,r=some (.int k n)):iZ P N F φ h w (Instr.makeMap t r) Q:=by
 unfold wD at hq
 split at hq
 ·rename_i p hp
  obtain⟨kt,et⟩:=p
  have ht:=sP hp
  obtain⟨hok,hq⟩:=jC hq
  have hrun:(Instr.makeMap t r).run P w=.ok (.map (some w.heap.size)) (w.alloc (.map #[] 0)):=by
   rcases hr with rfl | ⟨k,n,rfl⟩
   ·rfl
   ·simp[Instr.makeMap,run_underlying ht,asInt,asIntOf,Result.andThen]
  refine⟨_,_,hrun,qDn (s0:=0) (k0:=0) (z0:=0) hH hq (dA hfr hq) hok rfl rfl rfl (by simp) (fun b hb=>?_) (fun φ' e1 _=>?_) (fun φ' e1 _=>.mp _ _ _ e1)⟩
  ·show(w.heap.push _)[b]? = _
   rw[jr,if_neg (by omega)]
  ·exact .inr (.inl ⟨0,[],_,#[],rfl,e1,heap_alloc_new w _,.nil⟩)
 ·exact hq.elim
theorem qDo{ok:Bool}{v:V reg.T}{cv:Value}{b:Bool}(hv:aA reg F w φ v cv):aA reg F w φ (okV ok v b) (if ok then .tuple #[cv,.bool b] else cv):=by
 cases ok with
 | false=>exact hv
 | true =>
  refine .tup _ _ rfl (fun j hj=>?_)
  match j,hj with
  | 0,_=>exact hv
  | 1,_=>exact .d _ _ (.bool b)
theorem qFA{t:TypeId}{x k:V reg.T}{cx ck:Value}{ok:Bool}{Q:V reg.T×Hp reg.T→Prop}(hH:HR N F φ h w)(hq:(qDf P t x k ok h).K Q)(hx:aA reg F w φ x cx)(hk:aA reg F w φ k ck):iZ P N F φ h w (Instr.lookup t cx ck ok) Q:=by
 unfold qDf at hq
 split at hq
 ·rename_i kt et hm
  have ht:=sP hm
  split at hq
  ·rename_i z hz
   obtain⟨inf,zv,hi,hzz,hzr⟩:=qCr hz
   have hzrun:(zeroValue et).run P w=.ok zv w:=by simp[zeroValue,typeInfo,hi,hzz]
   split at hq
   ·obtain⟨hkb,hq⟩:=Out.bG.1 hq
    obtain⟨d,hd,hik⟩:=kJ hkb hk
    have hcx:cx=.map none:=by cases hx with | d _ _ h=>cases h with
     | nilm=>rfl
     | emp _ hx=>cases hx
     | sl _ _ _ _ _ _ _ hx=>cases hx
    subst hcx
    refine⟨_,w,?_,.pure hH hq (qDo (hzr (F:=F) (w:=w) (φ:=φ)))⟩
    have hf:Instr.findNow d ck [] 0=some none:=rfl
    simp[Instr.lookup,run_underlying ht,run_checkKey hd hik,run_findKey hd hf,hzrun,Result.andThen]
   ·rename_i i
    split at hq
    ·rename_i c es hget
     obtain⟨hkb,hq⟩:=Out.bG.1 hq
     obtain⟨d,hd,hik⟩:=kJ hkb hk
     obtain⟨b,ces,rfl,hp,hb,he⟩:=rA hH hget hx
     rcases uZ hk hik he 0 _ _ hq with⟨h1,h2⟩ | ⟨j,e,v,n,h1,h2,h3,h4,h5,h6⟩
     ·refine⟨_,w,?_,.pure hH h2 (qDo (hzr (F:=F) (w:=w) (φ:=φ)))⟩
      simp[Instr.lookup,run_underlying ht,MapKept.run_getObj_map hb,run_checkKey hd hik,run_findKey hd h1,hzrun,Result.andThen]
     ·refine⟨_,w,?_,.pure hH h6 (qDo h4)⟩
      simp[Instr.lookup,run_underlying ht,MapKept.run_getObj_map hb,run_checkKey hd hik,run_findKey hd h1,Result.andThen]
    ·exact hq.elim
   ·exact hq.elim
  ·exact hq.elim
 ·exact hq.elim
theorem qDp{i b c c':Nat}{es es':List ((V reg.T×V reg.T)×Nat)}{ces ces':Array MapEntry}{v:V reg.T}{cv:Value}{Q:V reg.T×Hp reg.T→Prop}(hH:HR N F φ h w)(hi:h.get i=some (.map c es))(hp:φ i=some (b,0,0,0))(hb:w.heap[b]? = some (.map ces c))
  (hq:Q (v,h.set i (some (.map c' es')))) (he:gT reg F w φ es' ces'.toList) (hv:aA reg F w φ v cv):Res N F φ h w Q cv { w with heap:=w.heap.setIfInBounds b (.map ces' c') }:=by
 have hs:=heap_set (o':=Obj.map ces' c') hb
 refine qJ4 hH hi hp hq rfl rfl rfl (by simp) (fun b' hne=>hs.2 b' hne) (fun hm=>.inr (.inl ⟨c',es',b,ces',rfl,hp,hs.1,he.mono reg hm (fun _ _ e=>e)⟩)) hv
theorem uM{t:TypeId}{x k v:V reg.T}{cx ck cv:Value}{Q:V reg.T×Hp reg.T→Prop}(hH:HR N F φ h w)(hq:(pM P t x k v h).K Q)(hx:aA reg F w φ x cx)(hk:aA reg F w φ k ck)(hv:aA reg F w φ v cv) :
  ∃w',(Instr.mapUpdate t cx ck cv).run P w=.ok () w'∧Res N F φ h w Q undef w':=by
 unfold pM at hq
 split at hq
 ·rename_i kt et i hm
  have ht:=sP hm
  split at hq
  ·rename_i c es hget
   obtain⟨hkb,hq⟩:=Out.bG.1 hq
   obtain⟨d,hd,hik⟩:=kJ hkb hk
   obtain⟨b,ces,rfl,hp,hb,he⟩:=rA hH hget hx
   rcases uZ hk hik he 0 _ _ hq with⟨h1,h2⟩ | ⟨j,e,v',n,h1,h2,h3,h4,h5,h6⟩
   ·refine⟨_,?_,qDp (ces':=ces.push { key:=ck,val:=cv,born:=c }) hH hget hp hb h2 ?_ .undef⟩
    ·simp[Instr.mapUpdate,run_underlying ht,MapKept.run_getObj_map hb,run_checkKey hd hik,run_findKey hd h1,run_setObj_map _ hb,Result.andThen]
    ·rw[Array.toList_push]
     exact he.push (c:={ key:=ck,val:=cv,born:=c }) hk hv
   ·have hj:ces[j]? = some e:=by simpa using h2
    rw[fe] at h1 h6
    refine⟨_,?_,qDp (ces':=ces.modify j fun e=>{ e with key:=ck,val:=cv }) hH hget hp hb h6 ?_ .undef⟩
    ·simp[Instr.mapUpdate,run_underlying ht,MapKept.run_getObj_map hb,run_checkKey hd hik,run_findKey hd h1,hj,h3,run_keyThatStays hik,run_setObj_map _ hb,Result.andThen]
    ·rw[Array.toList_modify]
     exact he.qW hv (fun e=>{ e with key:=ck,val:=cv }) (fun e=>⟨rfl,rfl⟩) j (fun e' he'=>by rw[h2] at he';cases he';exact h3.symm)
  ·exact hq.elim
 ·exact hq.elim
theorem qDq{t:TypeId}{x k:V reg.T}{cx ck:Value}{Q:V reg.T×Hp reg.T→Prop}(hH:HR N F φ h w)(hq:(yG P t x k h).K Q)(hx:aA reg F w φ x cx)(hk:aA reg F w φ k ck):iZ P N F φ h w (Instr.mapEntry t cx ck) Q:=by
 unfold yG at hq
 split at hq
 ·rename_i kt et i hm
  have ht:=sP hm
  split at hq
  ·rename_i z c es hz hget
   obtain⟨hkb,hq⟩:=Out.bG.1 hq
   obtain⟨d,hd,hik⟩:=kJ hkb hk
   obtain⟨inf,zv,hi,hzz,hzr⟩:=qCr hz
   have hzrun:(zeroValue et).run P w=.ok zv w:=by simp[zeroValue,typeInfo,hi,hzz]
   obtain⟨b,ces,rfl,hp,hb,he⟩:=rA hH hget hx
   have two:∀{v:V reg.T} {cv:Value} {n:Nat},aA reg F w φ v cv→aA reg F w φ (.tup [v,.d (.int .i64 (n:Int))]) (.tuple #[cv,goInt n]):=by
    intro v cv n hv
    refine .tup _ _ rfl (fun j hj=>?_)
    match j,hj with
    | 0,_=>exact hv
    | 1,_=>exact .d _ _ (.int _ _)
   rcases uZ hk hik he 0 _ _ hq with⟨h1,h2⟩ | ⟨j,e,v',n,h1,h2,h3,h4,h5,h6⟩
   ·refine⟨_,_,?_,qDp (ces':=ces.push { key:=ck,val:=zv,born:=c }) hH hget hp hb h2 ?_ (two hzr)⟩
    ·simp[Instr.mapEntry,run_underlying ht,MapKept.run_getObj_map hb,run_checkKey hd hik,run_findKey hd h1,hzrun,run_setObj_map _ hb,Result.andThen]
    ·rw[Array.toList_push]
     exact he.push (c:={ key:=ck,val:=zv,born:=c }) hk hzr
   ·have hj:ces[j]? = some e:=by simpa using h2
    rw[fe] at h1
    have hsame:(ces.modify j fun e=>{ e with key:=ck })=ces:=by
     apply Array.ext_getElem?
     intro q
     rw[nu]
     by_cases e1:j=q
     ·subst e1;rw[if_pos rfl,hj];simp[←h3]
     ·rw[if_neg e1]
    have hheap:({ w with heap:=w.heap.setIfInBounds b (.map (ces.modify j fun e=>{ e with key:=ck }) c) }:World)=w:=by
     rw[hsame]
     have: w.heap.setIfInBounds b (.map ces c)=w.heap:=by
      apply Array.ext_getElem?
      intro q
      rw[j6]
      by_cases e1:b=q
      ·subst e1;rw[if_pos rfl,hb];simp[(je.1 hb).1]
      ·rw[if_neg e1]
     rw[this]
    refine⟨_,w,?_,.pure hH h6 (two h4)⟩
    have hrun:(Instr.mapEntry t (.map (some b)) ck).run P w=.ok (.tuple #[e.val,goInt e.born]) { w with heap:=w.heap.setIfInBounds b (.map (ces.modify j fun e=>{ e with key:=ck }) c) }:=by
     simp[Instr.mapEntry,run_underlying ht,MapKept.run_getObj_map hb,run_checkKey hd hik,run_findKey hd h1,hj,h3,run_keyThatStays hik,run_setObj_map _ hb,Result.andThen]
    rw[hrun,hheap,h5]
  ·exact hq.elim
 ·exact hq.elim
theorem qAK{t:TypeId}{x n v:V reg.T}{cx cn cv:Value}{Q:V reg.T×Hp reg.T→Prop}(hH:HR N F φ h w)(hq:(zR x n v h).K Q)(hx:aA reg F w φ x cx)(hn:aA reg F w φ n cn)(hv:aA reg F w φ v cv) :
  ∃w',(Instr.entryStore t cx cn cv).run P w=.ok () w'∧Res N F φ h w Q undef w':=False.elim hq
theorem qIx{t:TypeId}{x:V reg.T}{cx:Value}{Q:V reg.T×Hp reg.T→Prop}(hH:HR N F φ h w)(hfr:∀r,Q r→bX N h.nx r.2.nx)(hq:(qF4 P t x h).K Q)(hx:aA reg F w φ x cx):iZ P N F φ h w (Instr.range t cx) Q:=by
 have hold:∀(o:Obj) (b:Nat),b<w.heap.size→(w.alloc o).heap[b]? = w.heap[b]?:=fun o b hb=>by
  show(w.heap.push _)[b]? = _
  rw[jr,if_neg (by omega)]
 unfold qF4 at hq
 split at hq
 ·rename_i s ht
  obtain⟨hok,hq⟩:=jC hq
  have ht:P.underlying t=some .string:=by
   unfold pK at ht
   split at ht
   ·assumption
   ·cases ht
  rw[hx.dR]
  refine⟨_,w.alloc (.stringIter ⟨s.toArray⟩ 0),?_,qDn (s0:=0) (k0:=0) (z0:=0) hH hq (dA hfr hq) hok rfl rfl rfl (by simp) (hold _) (fun φ' e1 _=>?_) (fun φ' e1 _=>.it _ _ _ e1)⟩
  ·simp[Instr.range,run_underlying ht,Result.andThen]
  ·exact .inr (.inr (.inl ⟨s,0,_,rfl,e1,heap_alloc_new w _⟩))
 ·split at hq
  ·rename_i p hm
   obtain⟨kt,et⟩:=p
   have ht:=sP hm
   split at hq
   ·obtain⟨hok,hq⟩:=jC hq
    obtain rfl:cx=.map none:=by
     cases hx with
     | d _ _ hd =>
      cases hd with
      | nilm=>rfl
      | emp _ hx' _ _ _=>cases hx'
      | sl _ _ _ _ _ _ _ hx'=>cases hx'
    refine⟨_,w.alloc (.mapIter none 0 #[] 0),?_,qDn (s0:=0) (k0:=0) (z0:=0) hH hq (dA hfr hq) hok rfl rfl rfl (by simp) (hold _) (fun φ' e1 _=>?_) (fun φ' e1 _=>.it _ _ _ e1)⟩
    ·simp[Instr.range,run_underlying ht,Result.andThen]
    ·exact .inr (.inr (.inr ⟨none,0,[],0,_,none,rfl,e1,heap_alloc_new w _,rfl⟩))
   ·rename_i i _
    split at hq
    ·rename_i c es hget
     obtain⟨hok,hq⟩:=jC hq
     obtain⟨b,ces,rfl,hp,hb,he⟩:=rA hH hget hx
     refine⟨_,w.alloc (.mapIter (some b) c #[] c),?_,qDn (s0:=0) (k0:=0) (z0:=0) hH hq (dA hfr hq) hok rfl rfl rfl (by simp) (hold _) (fun φ' e1 e2=>?_) (fun φ' e1 _=>.it _ _ _ e1)⟩
     ·simp[Instr.range,run_underlying ht,MapKept.run_getObj_map hb,Result.andThen]
     ·exact .inr (.inr (.inr ⟨some i,c,[],c,_,some b,rfl,e1,heap_alloc_new w _,b,_,e2 _ _ hp,rfl⟩))
    ·exact hq.elim
   ·exact hq.elim
  ·exact hq.elim
theorem gT.filter{p:((V reg.T×V reg.T)×Nat)→Bool}{q:MapEntry→Bool}{r:Nat→Bool}(hp:∀e,p e=r e.2)(hq:∀c,q c=r c.born){es:List ((V reg.T×V reg.T)×Nat)}{cs:List MapEntry}(h:gT reg F w φ es cs):gT reg F w φ (es.filter p) (cs.filter q):=by
 induction h with
 | nil=>exact .nil
 | cons k v n c es cs hk hv hn _ ih =>
  have e1:p ((k,v),n)=r n:=hp _
  have e2:q c=r n:=by rw[hq,hn]
  rw[o8,o8,e1,e2]
  cases r n with
  | true=>exact .cons k v n c _ _ hk hv hn ih
  | false=>exact ih
theorem gT.any{p:((V reg.T×V reg.T)×Nat)→Bool}{q:MapEntry→Bool}{r:Nat→Bool}(hp:∀e,p e=r e.2)(hq:∀c,q c=r c.born){es:List ((V reg.T×V reg.T)×Nat)}{cs:List MapEntry}(h:gT reg F w φ es cs):es.any p=cs.any q:=by
 induction h with
 | nil=>rfl
 | cons k v n c es cs hk hv hn _ ih=>rw[List.any_cons,List.any_cons,ih,hp,hq,hn]
theorem qJ5{x:V reg.T}{isString:Bool}{cx:Value}{ty:TypeId}{Q:V reg.T×Hp reg.T→Prop}(hH:HR N F φ h w)(hq:(qJw x isString h).K Q)(hx:aA reg F w φ x cx):iZ P N F φ h w (Instr.next cx isString ty) Q:=by
 have noV:aA reg F w φ (.tup [.d (.bool false)]) (.tuple #[.bool false]):=.tup _ _ rfl (fun j hj=>by
  match j,hj with
  | 0,_=>exact .d _ _ (.bool false))
 unfold qJw at hq
 split at hq
 ·rename_i i
  split at hq
  ·rename_i s pos hget
   obtain⟨b,hp,hb⟩:=(hH.obj i _ hget).sit reg
   cases hx with
   | it _ b' p' hp' =>
    rw[hp] at hp'
    simp only[cu,dx] at hp'
    obtain⟨rfl,-⟩:=hp'
    have hg:(getObj b).run P w=.ok (.stringIter ⟨s.toArray⟩ pos) w:=by simp[getObj,Sem.run,hb]
    have hs:∀o,(setObj b o).run P w=.ok () { w with heap:=w.heap.setIfInBounds b o }:=fun o=>by simp[setObj,Sem.run,hb]
    have hsz:(⟨s.toArray⟩:ByteArray).size=s.length:=by simp[ByteArray.size]
    simp only[Out.K,dY] at hq
    by_cases hlt:pos<s.length
    ·have h1:Nat.blt pos s.length=true:=fw hlt
     have hq:=hq.1 h1
     have hget0:(⟨s.toArray⟩:ByteArray).get! pos=s.getD pos 0:=by
      simp[ByteArray.get!,List.getD,hlt]
     have go:∀(r n:Nat),Utf8.decode ⟨s.toArray⟩ pos=(r,n)→Q (.tup [.d (.bool true),.d (.int .i64 (pos:Int)),.d (.int .i32 (r:Int))],h.set i (some (.sit s (pos+n))))→iZ P N F φ h w (Instr.next (.pointer (some ⟨b,0,none⟩)) true ty) Q:=by
      intro r n hdec hq
      refine⟨.tuple #[.bool true,goInt pos,.int .i32 (r:Int)],{ w with heap:=w.heap.setIfInBounds b (.stringIter ⟨s.toArray⟩ (pos+n)) },?_,qJ4 hH hget hp hq rfl rfl rfl (by simp) (fun b' hb'=>?_) (fun _=>?_) ?_⟩
      ·simp[Instr.next,hg,hs,hsz,hlt,hdec,Result.andThen]
      ·show(w.heap.setIfInBounds b _)[b']? = _
       rw[j6,if_neg (Ne.symm hb')]
      ·refine .inr (.inr (.inl ⟨s,pos+n,b,rfl,hp,?_⟩))
       show(w.heap.setIfInBounds b _)[b]? = _
       rw[j6,if_pos rfl,if_pos (je.1 hb).1]
      ·refine .tup _ _ rfl (fun j hj=>?_)
       match j,hj with
       | 0,_=>exact .d _ _ (.bool true)
       | 1,_=>exact .d _ _ (.int _ _)
       | 2,_=>exact .d _ _ (.int _ _)
     cases h2:Nat.blt (s.getD pos 0).toNat 128 with
     | true =>
      have h3:(s.getD pos 0).toNat<128:=bz h2
      refine go _ 1 ?_ (hq.1 h2)
      unfold Utf8.decode
      simp only[ky,hget0]
      rw[if_pos h3]
     | false=>exact go _ _ rfl (hq.2 h2)
    ·have h1:Nat.blt pos s.length=false:=by
      cases hb:Nat.blt pos s.length with
      | false=>rfl
      | true=>exact absurd (bz hb) hlt
     refine⟨.tuple #[.bool false],w,?_,.pure hH (hq.2 h1) ?_⟩
     ·simp[Instr.next,hg,hsz,hlt,Result.andThen]
     ·refine .tup _ _ rfl (fun j hj=>?_)
      match j,hj with
      | 0,_=>exact .d _ _ (.bool false)
  ·exact hq.elim
 ·exact hq.elim
theorem qIy{x:V reg.T}{cx:Value}{Q:V reg.T×Hp reg.T→Prop}(hH:HR N F φ h w)(hq:(qJx x h).K Q)(hx:aA reg F w φ x cx):iZ P N F φ h w (Instr.entry cx) Q:=False.elim hq
theorem qFB{t t2:TypeId}{x k:V reg.T}{cx ck:Value}{ty:TypeId}{Q:V reg.T×Hp reg.T→Prop}(hH:HR N F φ h w)(hq:(qGA P t x k h).K Q)(hx:aA reg F w φ x cx)(hk:aA reg F w φ k ck):iZ P N F φ h w (Builtin.delete_ #[t,t2] ty #[cx,ck]) Q:=False.elim hq
theorem qMv{n d:Nat}(ih:∀{t:TypeId} {x y:V reg.T} {b:Bool},eqT P n t x y=some b→∀{cx cy:Value},aA reg F w φ x cx→aA reg F w φ y cy→(Op.equalIn d t cx cy).run P w=.ok b w){xs ys:List (V reg.T)}{cs ds:Array Value}
  (hz:xs.length=cs.size) (hr:∀j,j<xs.length→aA reg F w φ (xs.getD j .any) (cs.getD j undef)) (hz':ys.length=ds.size) (hr':∀j,j<ys.length→aA reg F w φ (ys.getD j .any) (ds.getD j undef)) :
  ∀{fs:List Field} {b:Bool},qMq P (eqT P n) xs ys fs=some b→(Op.eqFields d cs ds fs).run P w=.ok b w:=by
 intro fs
 induction fs with
 | nil=>intro b h;cases h;rfl
 | cons f fs ihf =>
  intro b h
  simp only[qMq] at h
  split at h
  ·rename_i a c hn ha hc
   split at h
   ·rename_i p q hp hq
    cases h
    obtain⟨ca,h1,h2⟩:=qAt hz hr ha
    obtain⟨cc,h3,h4⟩:=qAt hz' hr' hc
    have h5:=ih hp h2 h4
    have h6:=ihf hq
    have hn:f.name ≠ "_":=by simpa using hn
    simp only[Op.eqFields,if_pos hn,Sem.run_bind,h1,h3,h5,Result.andThen_ok]
    cases p with
    | true=>simpa using h6
    | false=>simp
   ·cases h
  ·cases h
theorem qJ6:∀(n:Nat) {d:Nat} {t:TypeId} {x y:V reg.T} {b:Bool},n≤d→eqT P n t x y=some b→∀{cx cy:Value},aA reg F w φ x cx→aA reg F w φ y cy→(Op.equalIn d t cx cy).run P w=.ok b w:=by
 intro n
 induction n with
 | zero=>intro d t x y b _ h;cases h
 | succ n ih =>
  intro d t x y b hd h cx cy hx hy
  obtain⟨d,rfl⟩:∃e,d=e+1:=⟨d-1,by omega⟩
  simp only[eqT] at h
  split at h
  ·rename_i fs xs ys hu
   split at h
   ·cases h
   ·rename_i hs
    cases hx with
    | agg _ cs hz hr =>
     cases hy with
     | agg _ ds hz' hr' =>
      have hf:P.fieldsOf t=fs:=by simp[Program.fieldsOf,hu]
      rw[run_equalIn_struct w d t cs ds (by rw[hf];exact hu) hs,hf]
      exact qMv (fun h=>ih (by omega) h) hz hr hz' hr' h
  ·rename_i k a x b' y hu
   rw[hx.aW,hy.aW]
   split at h
   ·rename_i hk
    rw[fV hk]
    cases h
    exact run_equalIn_int w d t _ _ x y hu
   ·cases h
  ·rename_i s u hu
   rw[hx.dR,hy.dR]
   cases h
   rw[run_equalIn_string w d t _ _ hu]
   congr 1
   simp[ByteArray.toList_eq]
  ·rename_i a b' hu
   rw[hx.fB,hy.fB]
   cases h
   exact run_equalIn_bool' w d t a b' hu
  ·cases h
theorem qOD{op:BinOp}{t:TypeId}{xs ys:List (V reg.T)}{cx cy:Value}{Q:V reg.T×Hp reg.T→Prop}(hH:HR N F φ h w)(hq:(eqG P op t (.agg xs) (.agg ys) h).K Q)(hx:aA reg F w φ (.agg xs) cx)(hy:aA reg F w φ (.agg ys) cy)(ox oy:Operand) :
  iZ P N F φ h w (do eqGuard op t ox oy cx cy;binOp op t cx cy) Q:=by
 unfold eqG at hq
 split at hq
 ·rename_i b hg hb
  have h1:=qJ6 8 (d:=10000) (by omega) hb hx hy
  cases hx with
  | agg _ cs hz hr =>
   cases hy with
   | agg _ ds hz' hr' =>
    refine⟨_,w,?_,.pure hH hq (.d _ _ (.bool b))⟩
    simp only[Sem.run_bind,run_eqGuard_agg w .eql t ox oy cs ds hg,Result.andThen_ok,run_eql_struct,h1]
 ·rename_i b hg hb
  have h1:=qJ6 8 (d:=10000) (by omega) hb hx hy
  cases hx with
  | agg _ cs hz hr =>
   cases hy with
   | agg _ ds hz' hr' =>
    refine⟨_,w,?_,.pure hH hq (.d _ _ (.bool (!b)))⟩
    simp only[Sem.run_bind,run_eqGuard_agg w .neq t ox oy cs ds hg,Result.andThen_ok,run_neq_struct,h1]
 ·exact hq.elim
end
end Go.W
namespace Go.W
open Go Go.RowKit
section
variable {reg:Reg} {P:Program}
def eF(F:Nat→Prop)(w:World)(φ:Phi)(vs:List (V reg.T))(cs:Array Value):Prop:=vs.length=cs.size∧∀j,j<vs.length→aA reg F w φ (vs.getD j .any) (cs.getD j undef)
theorem eF.mono{F F':Nat→Prop}{w w':World}{φ φ':Phi}{vs:List (V reg.T)}{cs:Array Value}(h:∀b,F b→F' b∧w'.heap[b]? = w.heap[b]?)(hφ:∀i p,φ i=some p→φ' i=some p)(hl:eF F w φ vs cs):eF F' w' φ' vs cs :=
 ⟨hl.1,fun j hj=>(hl.2 j hj).mono reg h hφ⟩
theorem eF.append{F:Nat→Prop}{w:World}{φ:Phi}{vs us:List (V reg.T)}{cs ds:Array Value}(h1:eF F w φ vs cs)(h2:eF F w φ us ds):eF F w φ (vs++us) (cs++ds):=by
 refine⟨by simp[h1.1,h2.1],fun j hj=>?_⟩
 rw[dD]
 have e:(cs++ds).getD j undef=if j<vs.length then cs.getD j undef else ds.getD (j-vs.length) undef:=by
  simp only[dz]
  split
  ·rename_i h;rw[o6 (by rw[←h1.1];exact h)]
  ·rename_i h;rw[Array.getElem?_append_right (by rw[←h1.1];omega),h1.1]
 rw[e]
 split
 ·rename_i h;exact h1.2 j h
 ·rename_i h;exact h2.2 _ (by simp at hj;omega)
def bY(N F:Nat→Prop)(φ:Phi)(h:Hp reg.T)(w:World)(Q:V reg.T×Hp reg.T→Prop)(e:Ending)(w':World):Prop:=∃cv,e=.returned cv∧Res N F φ h w Q cv w'
def There(P:Program)(f:FuncId):Prop:=∃fn,P.funcs[f]? = some fn∧(fn.name == "runtime.NumGoroutine")=false∧fn.body.isNone=false
def bT(P:Program)(hd:Hd reg.T):Prop:=∀f args h Q,(hd f args h).K Q→There P f∧∀N F φ w cargs,(∀r,Q r→bX N h.nx r.2.nx)→HR N F φ h w→eF F w φ args cargs→Calls P f cargs w (bY N F φ h w Q)
variable {N F:Nat→Prop} {φ:Phi} {h:Hp reg.T} {w:World}
theorem aA.qOE{row:List (D reg.T)}{o:Nat}{cv:Value}(h:aA reg F w φ (.fp row o) cv):∃ad:Addr,cv=.pointer (some ad):=by
 cases h with | fp _ _ ad C tt fz hF hb hzz hr=>exact⟨_,rfl⟩
theorem aA.qOF{f:FuncId}{cs fs:List (V reg.T)}{cv:Value}(h:aA reg F w φ (.fn f cs fs) cv):∃c d,cv=.func (.func f) c d:=by
 cases h with | fn=>exact⟨_,_,rfl⟩
theorem wM{o:Oper}{a:Act}{w w':World}{K:Act→World→Prop}{Q:Exit→Act→World→Prop}(hr:(execOp a.eval o).run P w=.ok .skip w')
  (h:K (a.put o.dst undef) w'):o.wp P a w K Q:=by unfold Oper.wp;rw[hr];exact h
theorem qFC{o:Out (D reg.T)}{Q:V reg.T×Hp reg.T→Prop}(hq:(qMm o h).K Q):o.K fun x=>Q (.d x,h):=Out.aU.1 hq
theorem aV{o:Oper}{a:Act}{s:Sem Value}{Q:V reg.T×Hp reg.T→Prop}{K:Act→World→Prop}{Qx:Exit→Act→World→Prop}(hs:iZ P N F φ h w s Q)(he:execOp a.eval o=(do pure (.value (←s))))
  (hK:∀cv w',Res N F φ h w Q cv w'→K (a.put o.dst cv) w'):o.wp P a w K Qx:=by
 obtain⟨cv,w',hr,hres⟩:=hs
 unfold Oper.wp
 rw[he]
 have: (do pure (Next.value (←s)):Sem Next).run P w=.ok (.value cv) w':=by rw[Sem.run_bind,hr];rfl
 rw[this]
 exact hK cv w' hres
theorem qDr{s:Sem Value}{Q:V reg.T×Hp reg.T→Prop}(hH:HR N F φ h w)(hd:DOk P (fun _=>s) fun x=>Q (.d x,h)):iZ P N F φ h w s Q:=by
 obtain⟨d,cv,h1,h2,h3⟩:=hd
 exact⟨cv,w,h3 w,.pure hH h1 (.d _ _ (h2 F w))⟩
theorem qOG{f:FuncId}{vs:List (V reg.T)}{cs:Array Value}{Q:V reg.T×Hp reg.T→Prop}(hH:HR N F φ h w)(hov:qF5 P f=true)(hq:(ovG vs h).K Q)(hl:eF F w φ vs cs):∃cv w',(callFunc f cs).run P w=.ok (.value cv) w'∧Res N F φ h w Q cv w':=by
 unfold ovG at hq
 split at hq
 ·rename_i i o1 l1 c1 j o2 l2 c2
  have h1:cs.size=2:=hl.1.symm
  obtain⟨x,y,rfl⟩:∃x y,cs = #[x,y]:=by
   refine⟨cs.getD 0 undef,cs.getD 1 undef,?_⟩
   apply qx
   ·simpa using h1
   ·intro k h2 h3
    have h4:k<2:=by simpa using h3
    match k,h4 with
    | 0,_=>simp[h1]
    | 1,_=>simp[h1]
  have hx:aA reg F w φ (.sl i o1 l1 c1) x:=hl.2 0 (by simp)
  have hy:aA reg F w φ (.sl j o2 l2 c2) y:=hl.2 1 (by simp)
  split at hq
  ·rename_i oi oj hi hj
   obtain⟨hc,hq⟩:=Out.bG.1 hq
   simp only[bu,jv] at hc
   obtain⟨⟨⟨⟨hij,hri⟩,hrj⟩,hk1⟩,hk2⟩:=hc
   obtain⟨hn,hq⟩:=Out.aO.1 hq
   simp only[bu] at hn
   have hl1:0<l1:=bz hn.1
   have hl2:0<l2:=bz hn.2
   have hij:i≠j:=fun e=>by subst e;simp at hij
   have hk1:1<oi.k reg:=bz hk1
   have hk2:0<oj.k reg:=bz hk2
   have ob:∀{m o l:Nat} {c:Cap} {om:O reg.T} {z:Value},h.get m=some om→om.bB reg=true→aA reg F w φ (.sl m o l c) z→0<l→∃b s cap C t fz,z=.slice (some ⟨b,s,none⟩) l cap∧l≤cap∧(∃s' k',φ m=some (b,s',k'))∧s+cap*om.k reg≤C.size∧w.heap[b]? = some (.cells C t fz)∧free (om.k reg) C fz:=by
    intro m o l c om z hm hrm hz hlp
    cases hz with
    | slz _ _ _ base hc hb=>omega
    | sl _ _ _ _ b s k zz cap' hp hcr hlc hmx hzz =>
     obtain⟨_,h2⟩:=(hH.obj m om hm).rows reg hrm
     rcases h2 with⟨_,h2⟩ | ⟨b',s',C,t',fz,h2,h3,h4,h5⟩
     ·rw[h2] at hp;cases hp
     ·rw[h2] at hp
      simp only[cu,dx] at hp
      obtain⟨rfl,rfl,rfl,rfl⟩:=hp
      exact⟨_,_,cap',C,t',fz,rfl,hlc,⟨_,_,h2⟩,hzz,h3,h4⟩
   obtain⟨b1,s1,d1,C1,t1,f1,rfl,e1,⟨x1,y1,e2⟩,e3,e4,e5⟩:=ob hi hri hx hl1
   obtain⟨b2,s2,d2,C2,t2,f2,rfl,u1,⟨x2,y2,u2⟩,u3,u4,u5⟩:=ob hj hrj hy hl2
   have hfr:∀o,w.frozen? { block:=b1,off:=o }=false:=by
    intro o
    obtain⟨lo,hi⟩:=f1
    rcases e5 with e5 | e5
    ·simp only at e5
     subst e5
     simp only[World.frozen?,e4]
     simp
    ·omega
   have hC2:C2.size≠0:=by
    have: 1≤d2*oj.k reg:=Nat.mul_pos (by omega) hk2
    omega
   unfold qF5 at hov
   split at hov
   ·rename_i fn hfn
    split at hov
    ·rename_i hb
     simp only[bu,beq_iff_eq,bne_iff_ne,Option.isNone_iff_eq_none] at hov
     obtain⟨⟨⟨⟨⟨⟨ho,hn⟩,ha1⟩,ha2⟩,ha3⟩,ha4⟩,ht⟩:=hov
     split at ht
     ·rename_i t t' r htp hrt
      rw[bu] at ht
      obtain⟨htt,ht⟩:=ht
      have htt:=cz htt
      subst htt
      have hpa:fn.params = #[t,t]:=by rw[←lh (xs:=fn.params),htp]
      have hra:fn.resultTypes = #[r]:=by rw[←lh (xs:=fn.resultTypes),hrt]
      split at ht
      ·rename_i e hte
       have hfind:Extern.find fn=some (Extern.SlicesOverlaps.overlaps fn.params fn.resultTypes):=by
        unfold Extern.find
        simp only[ha2,ha3,ha4,ho]
        rfl
       have hnext:Extern.findNext fn=none:=by
        unfold Extern.findNext
        simp only[ha1,ho]
        rfl
       refine⟨.bool false,w,?_,.pure hH hq (.d _ _ (.bool false))⟩
       rw[run_callFunc_extern hfn (by simpa using hn) (by simp[hb]) hnext hfind,hpa,hra,
        Lib.run_overlaps_apart w t r e hte (P.cellsOf e) (fun w=>aX ht w) ⟨b1,s1,none⟩ ⟨b2,s2,none⟩ l1 d1 l2 d2 (fun hb=>hij (hH.inj i j oi oj b1 x1 y1 x2 y2 hi hj e2 (by rw[show b1=b2 from hb];exact u2))) t1 t2 C1.size C2.size
         (by simp[World.shape?,e4]) (by simp[World.shape?,u4]) hC2 (hfr _) (hfr _)]
       rfl
      ·cases ht
     ·cases ht
    ·cases hov
   ·cases hov
  ·exact hq.elim
 ·exact hq.elim
theorem qEd{b:Builtin}{ts:Array TypeId}{vs:List (V reg.T)}{cs:Array Value}{ty:TypeId}{consts:Array Bool}{Q:V reg.T×Hp reg.T→Prop}(hH:HR N F φ h w)(hfr:∀r,Q r→bX N h.nx r.2.nx)(hq:(qAF P b ts.toList vs h).K Q)(hl:eF F w φ vs cs) :
  ∃s,builtin b ts ty consts cs=(do pure (.value (←s)))∧iZ P N F φ h w s Q:=by
 have one:∀{v:V reg.T},vs=[v]→∃c,cs = #[c]∧aA reg F w φ v c:=by
  rintro v rfl
  have h1:cs.size=1:=hl.1.symm
  refine⟨cs.getD 0 undef,?_,hl.2 0 (by simp)⟩
  apply qx
  ·simpa using h1
  ·intro i h2 h3;obtain rfl:i=0:=by simpa using h3
   simp[h1]
 have two:∀{v u:V reg.T},vs=[v,u]→∃c d,cs = #[c,d]∧aA reg F w φ v c∧aA reg F w φ u d:=by
  rintro v u rfl
  have h1:cs.size=2:=hl.1.symm
  refine⟨cs.getD 0 undef,cs.getD 1 undef,?_,hl.2 0 (by simp),hl.2 1 (by simp)⟩
  apply qx
  ·simpa using h1
  ·intro i h2 h3
   have h4:i<2:=by simpa using h3
   match i,h4 with
   | 0,_=>simp[h1]
   | 1,_=>simp[h1]
 have tt:∀{l:List TypeId},ts.toList=l→ts=l.toArray:=fun e=>by rw[←e]
 unfold qAF at hq
 split at hq
 ·
  rename_i t v hts
  obtain⟨c,rfl,hv⟩:=one rfl
  have hts:=tt hts
  subst hts
  refine⟨_,rfl,?_⟩
  split at hq
  ·rename_i s
   obtain⟨ht,hq⟩:=Out.bG.1 hq
   have ht:=nO ht
   rw[hv.dR]
   refine⟨_,w,?_,.pure hH hq (.d _ _ (.int _ _))⟩
   have hsz:(ByteArray.mk s.toArray).size=s.length:=by simp[ByteArray.size]
   simp[Builtin.len_,run_underlying ht,goInt,hsz]
  ·split at hq
   ·rename_i e x ht hns
    have ht:=bO ht
    split at hq
    ·rename_i n hn
     have hform:∃base cap',c=.slice base n cap':=by
      cases hv with | d _ _ hd' =>
      cases hd'<;>(try (simp only[D.len?,reduceCtorEq] at hn;done))
      case nils=>simp only[D.len?,cu] at hn;subst hn;exact⟨none,0,rfl⟩
      case emp base cap hx1 hx2=>rw[hx2] at hn;cases hn;exact⟨base,cap,rfl⟩
      case sl n' a cap C t' fz hF hb hs hc hm hx1 hx2 hz hkr hr=>rw[hx2] at hn;cases hn;exact⟨_,cap,rfl⟩
     obtain⟨base,cap',rfl⟩:=hform
     exact⟨_,w,by simp[Builtin.len_,run_underlying ht,goInt],.pure hH hq (.d _ _ (.int _ _))⟩
    ·exact hq.elim
   ·rename_i e i off n cap ht hns
    have ht:=bO ht
    have hform:∃base cap',c=.slice base n cap':=by
     cases hv with
     | sl _ _ _ _ b s k z cap' hp hcr hlc hm hzz=>exact⟨_,cap',rfl⟩
     | slz _ _ _ base hcr=>exact⟨base,0,rfl⟩
    obtain⟨base,cap',rfl⟩:=hform
    exact⟨_,w,by simp[Builtin.len_,run_underlying ht,goInt],.pure hH hq (.d _ _ (.int _ _))⟩
   ·rename_i i hns hne
    split at hq
    ·rename_i p c0 es hm hget
     obtain⟨kt,et⟩:=p
     obtain⟨b,ces,rfl,hp,hb,he⟩:=rA hH hget hv
     have hl:es.length=ces.size:=by simpa using he.length
     rw[hl] at hq
     exact⟨_,w,by simp[Builtin.len_,run_underlying (sP hm),MapKept.run_getObj_map hb,goInt,Result.andThen],.pure hH hq (.d _ _ (.int _ _))⟩
    ·exact hq.elim
   ·exact hq.elim
 ·
  rename_i t t2 x y hts
  obtain⟨c,d,rfl,hx,hy⟩:=two rfl
  have hts:=tt hts
  subst hts
  split at hq
  ·rename_i hk
   have hk2:zU P t2:=by
    rw[jm] at hk
    rcases hk with hk | hk
    ·obtain⟨e,he⟩:=jl.1 hk;exact .inl ⟨e,bO he⟩
    ·exact .inr (nO hk)
   exact⟨_,rfl,qF7 hH hfr hk2 hq hx hy⟩
  ·exact⟨_,rfl,qEb hH hfr hq hx hy⟩
 ·
  rename_i t t2 x y hts
  obtain⟨c,d,rfl,hx,hy⟩:=two rfl
  have hts:=tt hts
  subst hts
  split at hq
  ·rename_i hk
   have hk2:zU P t2:=by
    rw[jm] at hk
    rcases hk with hk | hk
    ·obtain⟨e,he⟩:=jl.1 hk;exact .inl ⟨e,bO he⟩
    ·exact .inr (nO hk)
   exact⟨_,rfl,qJ2 hH hk2 hq hx hy⟩
  ·exact hq.elim
 ·
  rename_i t v hts
  obtain⟨c,rfl,hv⟩:=one rfl
  have hts:=tt hts
  subst hts
  split at hq
  ·rename_i e i off n c' ht
   have ht:=bO ht
   have hform:∃base,c=.slice base n c':=by
    cases hv with
    | sl _ _ _ _ b s k z cap' hp hcr hlc hm hzz=>have: cap' = c':=hcr;subst this;exact⟨_,rfl⟩
    | slz _ _ _ base hcr=>have: 0=c':=hcr;subst this;exact⟨base,rfl⟩
   obtain⟨base,rfl⟩:=hform
   exact⟨_,rfl,_,w,by simp[Builtin.cap_,run_underlying ht,goInt],.pure hH hq (.d _ _ (.int _ _))⟩
  ·exact hq.elim
 ·
  rename_i t x hts
  obtain⟨c,rfl,hx⟩:=one rfl
  have hts:=tt hts
  subst hts
  exact⟨_,rfl,qIt hH hq hx⟩
 ·
  rename_i t t2 m k hts
  obtain⟨c,d,rfl,hx,hy⟩:=two rfl
  have hts:=tt hts
  subst hts
  exact⟨_,rfl,qFB hH hq hx hy⟩
 ·rename_i k x k' y
  obtain⟨c,d,rfl,hx,hy⟩:=two rfl
  rw[hx.aW,hy.aW]
  obtain⟨hk,hq⟩:=Out.bG.1 hq
  exact⟨_,rfl,_,w,by simp[Builtin.min_,Builtin.min2],.pure hH hq (.d _ _ (.int _ _))⟩
 ·rename_i k x k' y
  obtain⟨c,d,rfl,hx,hy⟩:=two rfl
  rw[hx.aW,hy.aW]
  obtain⟨hk,hq⟩:=Out.bG.1 hq
  exact⟨_,rfl,_,w,by simp[Builtin.max_,Builtin.max2],.pure hH hq (.d _ _ (.int _ _))⟩
 ·rename_i k x k' y k2 z
  have h1:cs.size=3:=hl.1.symm
  have hx:=hl.2 0 (by simp)
  have hy:=hl.2 1 (by simp)
  have hz:=hl.2 2 (by simp)
  have e:cs = #[cs.getD 0 undef,cs.getD 1 undef,cs.getD 2 undef]:=by
   apply qx
   ·simpa using h1
   ·intro i h2 h3
    have h4:i<3:=by simpa using h3
    match i,h4 with
    | 0,_=>simp[h1]
    | 1,_=>simp[h1]
    | 2,_=>simp[h1]
  rw[aA.aW hx,aA.aW hy,aA.aW hz] at e
  subst e
  obtain⟨hk,hq⟩:=Out.bG.1 hq
  exact⟨_,rfl,_,w,by simp[Builtin.min_,Builtin.min2,qF3];rfl,.pure hH hq (.d _ _ (.int _ _))⟩
 ·rename_i k x k' y k2 z k3 u
  have h1:cs.size=4:=hl.1.symm
  have hx:=hl.2 0 (by simp)
  have hy:=hl.2 1 (by simp)
  have hz:=hl.2 2 (by simp)
  have hu:=hl.2 3 (by simp)
  have e:cs = #[cs.getD 0 undef,cs.getD 1 undef,cs.getD 2 undef,cs.getD 3 undef]:=by
   apply qx
   ·simpa using h1
   ·intro i h2 h3
    have h4:i<4:=by simpa using h3
    match i,h4 with
    | 0,_=>simp[h1]
    | 1,_=>simp[h1]
    | 2,_=>simp[h1]
    | 3,_=>simp[h1]
  rw[aA.aW hx,aA.aW hy,aA.aW hz,aA.aW hu] at e
  subst e
  obtain⟨hk,hq⟩:=Out.bG.1 hq
  exact⟨_,rfl,_,w,by simp[Builtin.min_,Builtin.min2,qF3];rfl,.pure hH hq (.d _ _ (.int _ _))⟩
 ·exact hq.elim
theorem pV{val:Operand→Option (V reg.T)}{ev:Operand→Value}(hv:∀x v,val x=some v→aA reg F w φ v (ev x)){xs:Array Operand}{vs:List (V reg.T)}(h:bS (xs.toList.map val)=some vs):eF F w φ vs (xs.map ev):=by
 have h1:=pR h
 have hlen:vs.length=xs.size:=by
  have:= congrArg List.length h1
  simpa using this.symm
 refine⟨by simpa using hlen,fun j hj=>?_⟩
 have hj':j<xs.size:=by omega
 have h2:val xs[j]=some (vs.getD j .any):=by
  have:= congrArg (fun l=>l[j]?) h1
  simp[hj',hj] at this
  simp[this,List.getD,hj]
 have h3:(xs.map ev).getD j undef=ev xs[j]:=by simp[Array.getD,hj']
 rw[h3]
 exact hv _ _ h2
theorem qCs{val:Operand→Option (V reg.T)}{ev:Operand→Value}(hv:∀x v,val x=some v→aA reg F w φ v (ev x))(parts:Array (Nat×Operand)) :
  (parts.toList.map fun p=>(p.1,val p.2)).map (·.1)=(parts.map fun p=>(p.1,ev p.2)).toList.map (·.1) ∧
  ∀(i:Nat) (p:Nat×Option (V reg.T)) (q:Nat×Value) (v:V reg.T),(parts.toList.map fun p=>(p.1,val p.2))[i]? = some p→(parts.map fun p=>(p.1,ev p.2)).toList[i]? = some q→p.2=some v→aA reg F w φ v q.2:=by
 refine⟨by simp,fun i p q v hp hq hpv=>?_⟩
 simp only[Array.toList_map,mg,Option.map_eq_some_iff] at hp hq
 obtain⟨x,hx,rfl⟩:=hp
 obtain⟨y,hy,rfl⟩:=hq
 rw[hx] at hy
 cases hy
 exact hv _ _ hpv
set_option maxHeartbeats 1000000 in
theorem qEe{hd:Hd reg.T}(hHd:bT P hd){o:Oper}{a:Act}{val:Operand→Option (V reg.T)}{Q:V reg.T×Hp reg.T→Prop}(hH:HR N F φ h w)(hfr:∀r,Q r→bX N h.nx r.2.nx)(hv:∀x v,val x=some v→aA reg F w φ v (a.eval x))
  (hq:(dO P hd o.op val h).K Q) {K:Act→World→Prop} {Qx:Exit→Act→World→Prop} (hK:∀cv w',Res N F φ h w Q cv w'→K (a.put o.dst cv) w'):o.wp P a w K Qx:=by
 obtain⟨dst,op,ty,pos,after,guard⟩:=o
 simp only at hq hK
 have pureV:∀{x:Operand} {op'},op=op'→execOp a.eval ⟨dst,op',ty,pos,after,guard⟩=pure (.value (a.eval x))→(vY (val x) h).K Q→Oper.wp P ⟨dst,op,ty,pos,after,guard⟩ a w K Qx:=by
  intro x op' he hex hq
  subst he
  obtain⟨v,hx,hq⟩:=eD hq
  unfold Oper.wp
  rw[hex]
  exact hK _ _ (.pure hH hq (hv x v hx))
 cases op<;>(try simp only[dO] at hq)<;>(try exact hq.elim)
 case move x=>exact pureV rfl rfl hq
 case assign x=>exact pureV rfl rfl hq
 case pick c x y =>
  split at hq
  ·rename_i t hc
   have hct:=(hv c _ hc).fB
   simp only[Out.K,dY] at hq
   cases t with
   | true=>exact pureV (x:=x) rfl (by simp[execOp,hct,asBool]) (hq.1 rfl)
   | false=>exact pureV (x:=y) rfl (by simp[execOp,hct,asBool]) (hq.2 rfl)
  ·exact hq.elim
 case box t x =>
  split at hq
  ·rename_i v hx
   split at hq
   ·rename_i hs hlen
    have hlen:=cz hlen
    obtain⟨hok,hq⟩:=jC hq
    obtain⟨_,h1,h2,_⟩:=qGH (hv x v hx) hs
    refine aV (s:=Instr.box t (a.eval x)) ⟨.pointer (some ⟨w.heap.size,0,none⟩),w.alloc (.cells (a.eval x).cells t),by simp[Instr.box,newVar,newRow],lF hH hq (dA hfr hq) hok rfl rfl rfl (by simp) (fun b hb=>?_) (heap_alloc_new w _) (.inl rfl) rfl ?_ ?_ ?_ ?_⟩ rfl hK
    ·show(w.heap.push _)[b]? = _
     rw[jr,if_neg (by omega)]
    ·simp only[O.len,O.k,ma,Nat.one_mul];omega
    ·simp[O.len]
    ·simp only[O.len,O.k,ma]
     refine⟨fun r hr=>by obtain rfl:r=0:=(by omega);rfl,fun r j hr hj=>?_,fun r j hr hj=>?_⟩
     ·obtain rfl:r=0:=by omega
      exact sN hs hj
     ·obtain rfl:r=0:=by omega
      rw[qa,fe]
      exact h2 j hj
    ·intro φ' e1 _
     have:= aA.ptr (reg:=reg) (F:=F) (w:=w.alloc (.cells (a.eval x).cells t)) (φ:=φ') h.nx 0 0 _ _ _ _ e1
     simpa using this
   ·exact hq.elim
  ·exact hq.elim
 case alloc t =>
  split at hq
  ·rename_i vs hz
   obtain⟨hok,hq⟩:=jC hq
   obtain⟨i,z,hi,hzz,h1,h2⟩:=fE (F:=F) (w:=w) (φ:=φ) hz
   refine aV (s:=Instr.alloc t true (.tuple #[])) ⟨.pointer (some ⟨w.heap.size,0,none⟩),w.alloc (.cells z.cells t),by simp[Instr.alloc,zeroValue,typeInfo,hi,hzz,newVar,newRow],lF hH hq (dA hfr hq) hok rfl rfl rfl (by simp) (fun b hb=>?_) (heap_alloc_new w _) (.inl rfl) rfl ?_ ?_ ?_ ?_⟩ rfl hK
   ·show(w.heap.push _)[b]? = _
    rw[jr,if_neg (by omega)]
   ·simp only[O.len,O.k,ma,Nat.one_mul];omega
   ·simp[O.len]
   ·simp only[O.len,O.k,ma]
    refine⟨fun r hr=>by obtain rfl:r=0:=(by omega);rfl,fun r j hr hj=>?_,fun r j hr hj=>?_⟩
    ·obtain rfl:r=0:=by omega
     exact(h2 j hj).2
    ·obtain rfl:r=0:=by omega
     rw[qa,fe]
     exact(h2 j hj).1
   ·intro φ' e1 _
    have:= aA.ptr (reg:=reg) (F:=F) (w:=w.alloc (.cells z.cells t)) (φ:=φ') h.nx 0 0 _ _ _ _ e1
    simpa using this
  ·exact hq.elim
 case fieldAddr s x f =>
  split at hq
  ·rename_i fs hs
   split at hq
   ·rename_i fl hf
    split at hq
    ·exact hq.elim
    ·rename_i hz
     have hinfo:∃i,P.info? fl.type=some i∧i.size≠0:=by
      cases hi:P.info? fl.type with
      | none=>exact absurd (by simp[Program.cellsOf,hi]) hz
      | some i=>exact⟨i,rfl,fun e=>hz (by simp[Program.cellsOf,hi,e])⟩
     obtain⟨i,hi,hi'⟩:=hinfo
     have hrun:∀b o',(Instr.fieldAt s (.pointer (some ⟨b,o',none⟩)) f).run P w=.ok (.pointer (some ⟨b,o' + fl.offset,none⟩)) w:=by
      intro b o'
      simp[Instr.fieldAt,run_underlying hs,hf,Instr.sureAddr,fieldPlace,sizeOf,typeInfo,hi,hi',addr_add]
     split at hq
     ·rename_i i' r o' hx
      obtain⟨b,s',k,z,hp,he⟩:=(hv x _ hx).sO
      refine aV (s:=Instr.fieldAt s (a.eval x) f) ⟨_,w,by rw[he];exact hrun _ _,.pure hH hq ?_⟩ rfl hK
      have:= aA.ptr (reg:=reg) (F:=F) (w:=w) (φ:=φ) i' r (o' + fl.offset) b s' k z hp
      rwa [show s' + r*k+(o' + fl.offset)=s' + r*k+o' + fl.offset by omega] at this
     ·rename_i row o' hx
      have hvx:=hv x _ hx
      generalize hax:a.eval x=ax at hvx
      cases hvx with
      | fp _ _ ad Cc tt fz hF hb hzz hr =>
       refine aV (s:=Instr.fieldAt s (a.eval x) f) ⟨_,w,by rw[hax];exact hrun _ _,.pure hH hq ?_⟩ rfl hK
       have:= aA.fp (reg:=reg) (F:=F) (w:=w) (φ:=φ) row (o' + fl.offset) ad Cc tt fz hF hb hzz hr
       rwa [show ad.off+(o' + fl.offset)=ad.off+o' + fl.offset by omega] at this
     ·exact hq.elim
   ·exact hq.elim
  ·exact hq.elim
 case load t x=>exact aV (qJ1 hH hq (fun v hx=>hv x v hx)) rfl hK
 case store t x y =>
  obtain⟨w',hr,hres⟩:=qIq hH hq (fun v hx=>hv x v hx) (fun v hy=>hv y v hy)
  refine wM (w':=w') ?_ (hK _ _ hres)
  simp[execOp,hr]
 case nilCheck x =>
  split at hq
  ·rename_i i r o hx
   obtain⟨b,s',k,z,hp,he⟩:=(hv x _ hx).sO
   exact aV (s:=pure (a.eval x)) ⟨_,w,rfl,.pure hH hq (hv x _ hx)⟩ (by simp only[execOp,he];rfl) hK
  ·rename_i row o hx
   have hvx:=hv x _ hx
   obtain⟨ad,he⟩:=hvx.qOE
   exact aV (s:=pure (a.eval x)) ⟨_,w,rfl,.pure hH hq hvx⟩ (by simp only[execOp,he];rfl) hK
  ·rename_i f cs fs hx
   have hvx:=hv x _ hx
   obtain⟨c,d,he⟩:=hvx.qOF
   exact aV (s:=pure (a.eval x)) ⟨_,w,rfl,.pure hH hq hvx⟩ (by simp only[execOp,he];rfl) hK
  ·exact hq.elim
 case binOp op t x y yt =>
  split at hq
  ·rename_i xs ys hx hy
   exact aV (s:=do eqGuard op t x y (a.eval x) (a.eval y);binOp op t (a.eval x) (a.eval y)) (qOD hH hq (hv x _ hx) (hv y _ hy) x y) rfl hK
  ·rename_i vx vy hne hx hy
   split at hq
   ·rename_i hn
    have he:a.eval y=.slice none 0 0:=by
     unfold qDb at hn
     split at hn
     ·rfl
     ·cases hn
    exact aV (s:=do eqGuard op t x y (a.eval x) (a.eval y);binOp op t (a.eval x) (a.eval y)) (by rw[he];exact qDr hH (qMs (qFC hq) (hv x _ hx) x y)) rfl hK
   ·exact aV (s:=do eqGuard op t x y (a.eval x) (a.eval y);binOp op t (a.eval x) (a.eval y)) (qDr hH (qMr (qFC hq) (hv x _ hx) (hv y _ hy) x y rfl)) rfl hK
  ·exact hq.elim
 case unOp op t x =>
  split at hq
  ·rename_i vx hx
   exact aV (qDr hH (qOB (qFC hq) (hv x _ hx))) rfl hK
  ·exact hq.elim
 case build t parts =>
  obtain⟨v,hb,hq⟩:=eD hq
  obtain⟨h1,h2⟩:=qCs (F:=F) (w:=w) (φ:=φ) hv parts
  obtain⟨cv,h3,h4⟩:=qF8 hb _ h1 h2
  exact aV ⟨cv,w,h3,.pure hH hq h4⟩ rfl hK
 case buildSlice t len parts =>
  obtain⟨h1,h2⟩:=qCs (F:=F) (w:=w) (φ:=φ) hv parts
  exact aV (qAJ hH hfr hq _ h1 h2) rfl hK
 case makeSlice t l c =>
  split at hq
  ·rename_i vl vc hl hc
   exact aV (qBV hH hfr hq (hv l _ hl) (hv c _ hc)) rfl hK
  ·exact hq.elim
 case slice t x lo hi mx =>
  split at hq
  ·rename_i vx hx
   have side:∀(y:Option Operand),(y.map val=none↔y.map a.eval=none)∧∀v cv,y.map val=some (some v)→y.map a.eval=some cv→aA reg F w φ v cv:=by
    intro y
    cases y with
    | none=>exact⟨by simp,fun v cv h=>by simp at h⟩
    | some z=>exact⟨by simp,fun v cv h h'=>by simp at h h';subst h';exact hv z v h⟩
   exact aV (qIu hH hq (hv x _ hx) (side lo).1 (side lo).2 (side hi).1 (side hi).2 (side mx).1 (side mx).2) rfl hK
  ·exact hq.elim
 case indexAddr t x i =>
  split at hq
  ·rename_i vx vi hx hi
   exact aV (qBW hH hq (hv x _ hx) (hv i _ hi)) rfl hK
  ·exact hq.elim
 case index t x i =>
  split at hq
  ·rename_i vx vi hx hi
   exact aV (qIv hH hq (hv x _ hx) (hv i _ hi)) rfl hK
  ·exact hq.elim
 case field t x f =>
  split at hq
  ·rename_i vx hx
   exact aV (qIw hH hq (hv x _ hx)) rfl hK
  ·exact hq.elim
 case convert src dst' x =>
  split at hq
  ·rename_i vx hx
   exact aV (qEc hH hfr hq (hv x _ hx)) rfl hK
  ·exact hq.elim
 case extract x n =>
  split at hq
  ·rename_i vs hx
   obtain⟨v,hn,hq⟩:=eD hq
   have hvx:=hv x _ hx
   generalize hax:a.eval x=ax at hvx
   cases hvx with
   | tup _ cs hz hr =>
    have hlt:n<vs.length:=by
     rcases ja n vs.length with h | h
     ·exact h
     ·rw[l7 h] at hn;cases hn
    have hvn:vs.getD n .any=v:=by simp[List.getD,hn]
    have hrel:=hr n hlt
    rw[hvn] at hrel
    have hn':n<cs.size:=by omega
    have hc:cs[n]? = some (cs.getD n undef):=by simp[hn']
    exact aV (s:=Instr.extract (a.eval x) n) ⟨_,w,by rw[hax];unfold Instr.extract;simp only[hc];rfl,.pure hH hq hrel⟩ rfl hK
  ·exact hq.elim
 case makeMap t r =>
  cases r with
  | none=>exact aV (s:=Instr.makeMap t none) (zW hH hfr hq (.inl rfl)) rfl hK
  | some o =>
   simp only at hq
   split at hq
   ·rename_i k n ho
    exact aV (s:=Instr.makeMap t (some (a.eval o))) (zW hH hfr hq (.inr ⟨k,n,by rw[(hv o _ ho).aW]⟩)) rfl hK
   ·exact hq.elim
 case range t x =>
  split at hq
  ·rename_i vx hx
   exact aV (qIx hH hfr hq (hv x _ hx)) rfl hK
  ·exact hq.elim
 case next x b =>
  split at hq
  ·rename_i vx hx
   exact aV (qJ5 (ty:=ty) hH hq (hv x _ hx)) rfl hK
  ·exact hq.elim
 case entry x =>
  split at hq
  ·rename_i vx hx
   exact aV (qIy hH hq (hv x _ hx)) rfl hK
  ·exact hq.elim
 case lookup t x k ok =>
  split at hq
  ·rename_i vx vk hx hk
   exact aV (qFA hH hq (hv x _ hx) (hv k _ hk)) rfl hK
  ·exact hq.elim
 case mapUpdate t m k x =>
  split at hq
  ·rename_i vm vk vx hm hk hx
   obtain⟨w',hr,hres⟩:=uM hH hq (hv m _ hm) (hv k _ hk) (hv x _ hx)
   refine wM (w':=w') ?_ (hK _ _ hres)
   simp[execOp,hr]
  ·exact hq.elim
 case insert t m k x =>
  split at hq
  ·rename_i vm vk vx hm hk hx
   obtain⟨w',hr,hres⟩:=uM hH hq (hv m _ hm) (hv k _ hk) (hv x _ hx)
   refine wM (w':=w') ?_ (hK _ _ hres)
   simp[execOp,hr]
  ·exact hq.elim
 case mapEntry t m k =>
  split at hq
  ·rename_i vm vk hm hk
   exact aV (qDq hH hq (hv m _ hm) (hv k _ hk)) rfl hK
  ·exact hq.elim
 case entryStore t m n x =>
  split at hq
  ·rename_i vm vn vx hm hn hx
   obtain⟨w',hr,hres⟩:=qAK (P:=P) (t:=t) hH hq (hv m _ hm) (hv n _ hn) (hv x _ hx)
   refine wM (w':=w') ?_ (hK _ _ hres)
   simp[execOp,hr]
  ·exact hq.elim
 case makeFunc fn first caps =>
  cases fn<;>(try simp only at hq)<;>(try exact hq.elim)
  rename_i f
  split at hq
  ·rename_i fs cs h1 h2
   have r1:=pV (F:=F) (w:=w) (φ:=φ) hv h1
   have r2:=pV (F:=F) (w:=w) (φ:=φ) hv h2
   exact aV (s:=Instr.makeFunc (.func f) (first.map a.eval) (caps.map a.eval)) ⟨_,w,rfl,.pure hH hq (.fn f cs fs _ _ r2.1 r2.2 r1.1 r1.2)⟩ rfl hK
  ·exact hq.elim
 case call c =>
  split at hq
  ·rename_i vs hvs
   have hl:=pV (F:=F) (w:=w) (φ:=φ) hv hvs
   obtain⟨callee,cargs,cts⟩:=c
   simp only at hq hl
   cases callee<;>(try simp only at hq)<;>(try exact hq.elim)
   case builtin b =>
    obtain⟨s,he,hs⟩:=qEd (ty:=ty) (consts:=cargs.map fun | .const _=>true | _=>false) hH hfr hq hl
    refine aV hs ?_ hK
    simp only[execOp,resolve]
    exact he
   case value of =>
    split at hq
    ·rename_i f cs fs hf
     have hvf:=hv of _ hf
     generalize haf:a.eval of=af at hvf
     cases hvf with
     | fn _ _ _ ccs cfs hz hr hz' hr' =>
      have hargs:=eF.append (eF.append (⟨hz',hr'⟩:eF F w φ fs cfs) hl) (⟨hz,hr⟩:eF F w φ cs ccs)
      split at hq
      ·rename_i hov
       obtain⟨cv,w',hrun,hres⟩:=qOG hH hov hq hargs
       have hrun:(execOp a.eval ⟨dst,.call ⟨.value of,cargs,cts⟩,ty,pos,after,guard⟩).run P w=.ok (.value cv) w':=by
        simp only[execOp,resolve,haf,Deferred.ofValue,invoke,Sem.run_bind,Sem.run_pure,Result.andThen_ok,hrun]
       unfold Oper.wp
       rw[hrun]
       exact hK cv w' hres
      obtain⟨⟨fn,hfn,hname,hbody⟩,hcall⟩:=hHd _ _ _ _ hq
      have hc:=hcall N F φ w _ hfr hH hargs
      have hrun:(execOp a.eval ⟨dst,.call ⟨.value of,cargs,cts⟩,ty,pos,after,guard⟩).run P w=.ok (.enter f (cfs++cargs.map a.eval++ccs)) w:=by
       have hname':¬fn.name = "runtime.NumGoroutine":=fun e=>by rw[e] at hname;simp at hname
       have hbody':¬fn.body=none:=fun e=>by rw[e] at hbody;simp at hbody
       simp[execOp,resolve,haf,Deferred.ofValue,invoke,callFunc,hfn,hname',hbody']
      unfold Oper.wp
      rw[hrun]
      simp only[Oper.upon_enter]
      refine hc.mono (fun e w' hpost=>?_)
      obtain⟨cv,rfl,hres⟩:=hpost
      exact hK cv w' hres
    ·exact hq.elim
  ·exact hq.elim
def Fr(r:Option Nat):Fence:={ Fence.wide with round:=r }
theorem qFD{r:Option Nat}{n:Nat}{P:Program}{f:FuncId}{args:Array Value}{w:World}{R:Ending→World→Prop}:CallsIn (Fr r) n P f args w R↔Calls P f args w R:=(callsIn_wide (n:=n):CallsIn Fence.wide n P f args w R↔Calls P f args w R)
theorem qIz{r:Option Nat}{n:Nat}{P:Program}{row:String}{args:Array Value}{w:World}{R:Value→World→Prop}(h:Rows P row args w R):RowsIn (Fr r) n P row args w R :=
 fun c cs _=>let ⟨v,w',h1,h2⟩:=h c cs;⟨v,w',h1,(stepsIn_wide (P:=P)).2 h2⟩
theorem Oper.qAL{r:Option Nat}{n:Nat}{P:Program}{o:Oper}{a:Act}{w:World}{K:Act→World→Prop}{Q:Exit→Act→World→Prop}(hnd:∀c,o.op≠.defer c)(h:Oper.wp P o a w K Q):Oper.wpIn (Fr r) n P o a w K Q:=by
 refine⟨fun _ _=>trivial,?_⟩
 rw[Oper.semAt_eq _ _ _ hnd]
 unfold Oper.wp at h
 revert h
 generalize (execOp a.eval o).run P w=x
 intro h
 cases x with
 | ok y w' =>
  cases y with
  | enter f args=>exact⟨fun hd=>(by cases hd),qFD.2 h⟩
  | row row args=>exact⟨fun hd=>(by cases hd),qIz h⟩
  | value v=>exact h
  | skip=>exact h
  | defer d=>exact h
  | _=>exact h.elim
 | halt y w' =>
  cases y with
  | panic v=>exact h
  | _=>exact h.elim
theorem qEf{r:Option Nat}{m:Nat}{reg:Reg}{P:Program}{hd:Hd reg.T}{N F:Nat→Prop}{φ:Phi}{h:Hp reg.T}{w:World}(hHd:bT P hd){o:Oper}{a:Act}{val:Operand→Option (V reg.T)}{Q:V reg.T×Hp reg.T→Prop}(hH:HR N F φ h w)(hfr:∀r,Q r→bX N h.nx r.2.nx)(hv:∀x v,val x=some v→aA reg F w φ v (a.eval x))
  (hq:(dO P hd o.op val h).K Q) {K:Act→World→Prop} {Qx:Exit→Act→World→Prop} (hK:∀cv w',Res N F φ h w Q cv w'→K (a.put o.dst cv) w'):Oper.wpIn (Fr r) m P o a w K Qx:=by
 refine Oper.qAL (fun c hc=>?_) (qEe hHd hH hfr hv hq hK)
 rw[hc] at hq
 exact hq.elim
end
end Go.W
