/- Part of the proof: texts Qd1. No conditions. -/
import Derived.Test.YtclpnndkhbnaoaaGreatDoorQa
set_option linter.all false
namespace Go.Proofs.YtclpnndkhbnaoaaGreatDoor
open Go Go.W Go.Proofs
open Go.W.DT (ret need br both bad loop join)
set_option maxRecDepth 100000
theorem qQi(r:Se×Int×Ct×Unit):(qO3 (sAb,(1:Int),())).G r=(ret (sA3,1,cA,()):DT (Se×Int×Ct×Unit)).G r:=by kernel_rfl
end Go.Proofs.YtclpnndkhbnaoaaGreatDoor
