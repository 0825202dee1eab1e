/- Part of the proof: texts Aa. No conditions. -/
import Derived.Test.YtclpnndkhbnaoaaGreatDoorRc
import Derived.Test.YtclpnndkhbnaoaaGreatDoorVg
set_option linter.all false
noncomputable section
namespace Go.Proofs.YtclpnndkhbnaoaaGreatDoor
open Go Go.W Go.Proofs
set_option maxRecDepth 100000
def fzR(S:TB):TB:=fun args h=>(fO aC args h).bind fun q=>S q.1 q.2
theorem iF{f:FuncId}{S:TB}(hS:aN f S):aN f (fzR S):=by
 intro args h Q hq
 simp only[fzR,Out.aU] at hq
 obtain⟨q,h1,h2⟩:=(Out.bP _ _).1 hq
 obtain⟨hnx,hfz⟩:=vK h1
 obtain⟨ht,hc⟩:=hS q.1 q.2 Q h2
 refine⟨ht,fun N F φ w cargs hfr hH hl=>?_⟩
 obtain⟨N',F',φ',hl',hH',hG⟩:=hfz N F φ w cargs hH hl
 refine(hc N' F' φ' w cargs (fun r hr=>vC (hfr r hr) hnx hG.names) hH' hl').mono (fun e w' he=>?_)
 obtain⟨cv,he,v,h',N2,F2,φ2,hq',hv,hH2,hG2⟩:=he
 exact⟨cv,he,v,h',N2,F2,φ2,hq',hv,hH2,hG.trans hG2⟩
theorem jK{α:Type}{t u:DT α}{w:Option α}{d r:α}(hw:w=t.val)(hv:t.G r=u.G r)(h:u.G r):w.isSome=true∧w.getD d=r:=by
 have e:=DT.qKe (Eq.mpr hv h)
 rw[hw,e]
 exact⟨rfl,rfl⟩
end Go.Proofs.YtclpnndkhbnaoaaGreatDoor
