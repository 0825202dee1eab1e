/- Part of the proof. No conditions. -/
import Derived.Test.YtehpnjmgjmkjaaaGreatDoorCg
namespace Go.Proofs.YtehpnjmgjmkjaaaGreatDoor
open Go Go.W Go.Proofs DT
set_option maxRecDepth 100000
theorem qWw(shape:Int)(ns:List Int)(x:RG):(oI 0 0 (shape,ns,())).G x=(mW 0 0 shape ns).G x:=by kernel_rfl
theorem qWx(shape:Int)(ns:List Int)(x:RG):(oI 0 1 (shape,ns,())).G x=(mW 0 1 shape ns).G x:=by kernel_rfl
theorem qWy(shape:Int)(ns:List Int)(x:RG):(oI 1 0 (shape,ns,())).G x=(mW 1 0 shape ns).G x:=by kernel_rfl
theorem qWz(shape:Int)(ns:List Int)(x:RG):(oI 1 1 (shape,ns,())).G x=(mW 1 1 shape ns).G x:=by kernel_rfl
theorem qW0(shape:Int)(ns:List Int)(x:RG):(oI 4 0 (shape,ns,())).G x=(mW 4 0 shape ns).G x:=by kernel_rfl
theorem qW1(shape:Int)(ns:List Int)(x:RG):(oI 4 1 (shape,ns,())).G x=(mW 4 1 shape ns).G x:=by kernel_rfl
end Go.Proofs.YtehpnjmgjmkjaaaGreatDoor
