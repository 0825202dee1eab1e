/- What the program lays, fact by fact ([6]). No conditions. -/
import Derived.Test.YtehpnjmgjmkjaaaGreatDoorRows
import Derived.LaidByTextLater
import Derived.SevenTiedAt
namespace Go.Proofs.YtehpnjmgjmkjaaaGreatDoor
open Go
theorem ti6 : ∀ os tape, varsDone Tryz.prog 400 (varsId Tryz.prog) os tape = true := fun _ _ => by kernel_rfl
end Go.Proofs.YtehpnjmgjmkjaaaGreatDoor
