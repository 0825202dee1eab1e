/- Part of the proof: texts Ch4. No conditions. -/
import Derived.Test.YtlmkakccmpncjaaGreatDoorCg
set_option linter.all false
namespace Go.Proofs.YtlmkakccmpncjaaGreatDoor
open Go Go.W Go.Proofs DT
set_option maxRecDepth 100000
theorem qWF(shape:Int)(ns:List Int)(x:RG):(nZ 3 1 (shape,ns,())).G x=(mH 3 1 shape ns).G x:=by kernel_rfl
end Go.Proofs.YtlmkakccmpncjaaGreatDoor
