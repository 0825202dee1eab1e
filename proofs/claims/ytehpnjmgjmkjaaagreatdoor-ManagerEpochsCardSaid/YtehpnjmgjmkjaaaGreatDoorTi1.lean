/- What the program lays, fact by fact ([2, 4]). No conditions. -/
import Derived.Test.YtehpnjmgjmkjaaaGreatDoorRows
import Derived.LaidByTextLater
import Derived.SevenTiedAt
namespace Go.Proofs.YtehpnjmgjmkjaaaGreatDoor
open Go
theorem ti2 : Tryz.prog.worded rootWordLater = true := by kernel_rfl
theorem ti4 : (Tryz.prog.funcNamed "gosem.cut.vars").isSome = true := by kernel_rfl
end Go.Proofs.YtehpnjmgjmkjaaaGreatDoor
