/- Part of the proof: texts By Bz. No conditions. -/
import Derived.Test.YtclpnndkhbnaoaaGreatDoorBc
set_option linter.all false
namespace Go.Proofs.YtclpnndkhbnaoaaGreatDoor
open Go Go.W Go.Proofs
open Go.W.DT (ret need br bad loop join)
set_option maxRecDepth 100000
end Go.Proofs.YtclpnndkhbnaoaaGreatDoor
