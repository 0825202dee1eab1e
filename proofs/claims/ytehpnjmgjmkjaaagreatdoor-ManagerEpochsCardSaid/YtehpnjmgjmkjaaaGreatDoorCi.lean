/- Part of the proof. No conditions. -/
import Derived.Test.YtehpnjmgjmkjaaaGreatDoorCg
namespace Go.Proofs.YtehpnjmgjmkjaaaGreatDoor
open Go Go.W Go.Proofs DT
set_option maxRecDepth 100000
theorem qW2(shape:Int)(ns:List Int)(x:RG):(oI 2 0 (shape,ns,())).G x=(mW 2 0 shape ns).G x:=by kernel_rfl
theorem qW3(shape:Int)(ns:List Int)(x:RG):(oI 2 1 (shape,ns,())).G x=(mW 2 1 shape ns).G x:=by kernel_rfl
end Go.Proofs.YtehpnjmgjmkjaaaGreatDoor
