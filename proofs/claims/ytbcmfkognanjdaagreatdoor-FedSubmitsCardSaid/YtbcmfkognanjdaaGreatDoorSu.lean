/- FedSubmits: copies of states, as rows. No conditions. -/
import Derived.Test.YtbcmfkognanjdaaGreatDoorSb
namespace Go.Proofs.YtbcmfkognanjdaaGreatDoor
open Go Go.W Go.Proofs
set_option maxRecDepth 100000
/-- A state's copy. -/
def fsLo (m : Memo reg0.T) : Memo reg0.T := ⟨[m.args.headD nS, nS], m.objs, (m.args.headD nS).ren (fun i => i + m.objs.length), (m.objs ++ m.objs.map (O.ren fun i => i + m.objs.length)).map some⟩
end Go.Proofs.YtbcmfkognanjdaaGreatDoor
