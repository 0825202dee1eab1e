/- Part of the proof: texts Ab1 Ab2 Ab3. No conditions. -/
import Derived.Test.YtclpnndkhbnaoaaGreatDoorAa
set_option linter.all false
namespace Go.Proofs.YtclpnndkhbnaoaaGreatDoor
open Go Go.W Go.Proofs
open Go.W.DT (ret need br bad loop join)
set_option maxRecDepth 100000

end Go.Proofs.YtclpnndkhbnaoaaGreatDoor
