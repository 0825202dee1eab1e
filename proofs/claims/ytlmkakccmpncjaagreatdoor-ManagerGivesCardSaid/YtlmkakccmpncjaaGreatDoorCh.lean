/- Part of the proof: texts Ch1. No conditions. -/
import Derived.Test.YtlmkakccmpncjaaGreatDoorCg
set_option linter.all false
namespace Go.Proofs.YtlmkakccmpncjaaGreatDoor
open Go Go.W Go.Proofs DT
set_option maxRecDepth 100000
theorem qW6(shape:Int)(ns:List Int)(x:RG):(nZ 0 0 (shape,ns,())).G x=(mH 0 0 shape ns).G x:=by kernel_rfl
theorem qW7(shape:Int)(ns:List Int)(x:RG):(nZ 0 1 (shape,ns,())).G x=(mH 0 1 shape ns).G x:=by kernel_rfl
theorem qW8(shape:Int)(ns:List Int)(x:RG):(nZ 1 0 (shape,ns,())).G x=(mH 1 0 shape ns).G x:=by kernel_rfl
theorem qW9(shape:Int)(ns:List Int)(x:RG):(nZ 1 1 (shape,ns,())).G x=(mH 1 1 shape ns).G x:=by kernel_rfl
theorem qWA(shape:Int)(ns:List Int)(x:RG):(nZ 4 0 (shape,ns,())).G x=(mH 4 0 shape ns).G x:=by kernel_rfl
theorem qWB(shape:Int)(ns:List Int)(x:RG):(nZ 4 1 (shape,ns,())).G x=(mH 4 1 shape ns).G x:=by kernel_rfl
end Go.Proofs.YtlmkakccmpncjaaGreatDoor
