/- Part of the proof. No conditions. -/
import Derived.Test.YtehpnjmgjmkjaaaGreatDoorCg
namespace Go.Proofs.YtehpnjmgjmkjaaaGreatDoor
open Go Go.W Go.Proofs DT
set_option maxRecDepth 100000
theorem qW4(shape:Int)(ns:List Int)(x:RG):(oI 3 0 (shape,ns,())).G x=(mW 3 0 shape ns).G x:=by kernel_rfl
end Go.Proofs.YtehpnjmgjmkjaaaGreatDoor
namespace Go.Proofs.YtehpnjmgjmkjaaaGreatDoor
open Go Go.W Go.Proofs DT
set_option maxRecDepth 100000
theorem qW5(shape:Int)(ns:List Int)(x:RG):(oI 3 1 (shape,ns,())).G x=(mW 3 1 shape ns).G x:=by kernel_rfl
end Go.Proofs.YtehpnjmgjmkjaaaGreatDoor
