/- Part of the proof: texts Ea. No conditions. -/
import Derived.Test.YtclpnndkhbnaoaaGreatDoorCb
set_option linter.all false
namespace Go.Proofs.YtclpnndkhbnaoaaGreatDoor
open Go Go.W Go.Proofs
open Go.W.DT (ret need br bad loop join)
set_option maxRecDepth 100000
def lX:Se:=⟨⟨[[]],[⟨qAl,[⟨10000,10000⟩],10000⟩]⟩,[],[],[],[],[],0,0,0⟩
end Go.Proofs.YtclpnndkhbnaoaaGreatDoor
