/-
  DERIVED. GIVEN WITH THE SEED: THE CARDS: each row of YtehpnjmgjmkjaaaGreatDoorRows.lean that lists a variable, with what it lists TIED to the program's text (the seventh form; the later family's looks); each row that meets fmt, with fmt's text TOLD by the authors' own Lean function (tested against real Go, not proved from fmt's source: count such statements apart). THE CARD IS WHAT COUNTS. Prove the row's statement (the work); the ties are given (YtehpnjmgjmkjaaaGreatDoorTie.lean); close each card by the builder's one call (the guide's Derived/Test/ToyasCard.lean, 'card_holds'). Laid BY PROGRAM, IN A SANDBOX (cutbox-door.mjs). By AI agents, Wed Nov 11 2026. No macro, syntax, notation, axiom, sorry.
-/
import Derived.Test.YtehpnjmgjmkjaaaGreatDoorRows
import GoSem.ClaimSeven
namespace Go.Proofs.YtehpnjmgjmkjaaaGreatDoor
namespace Rows

/-- THE TIED CARD OF 'dispatchlaw19.ManagerAsks'. -/
def managerAsksCard : Claim7 := { stood := { row := managerAsksRow, standIns := [], harness := (true, "4d5b6e6ab36eced91414e05653eaea854775cf71e4fcbf39ee02a2969fa8e8f1"), looks := true }, kinds := [], alts := [], laidByText := true, laidKinds := [.pinned, .data, .sentinel, .sentinel, .data, .data, .data], laidTests := true, laidLooks := .later }
def ManagerAsksCardSaid : Prop := Claim7.holds Tryz.pinned (.plain (OpenSpec.ofChange managerAsksSpec)) managerAsksCard

/-- THE TIED CARD OF 'dispatchlaw19.ManagerGives'. -/
def managerGivesCard : Claim7 := { stood := { row := managerGivesRow, standIns := [], harness := (true, "4d5b6e6ab36eced91414e05653eaea854775cf71e4fcbf39ee02a2969fa8e8f1"), looks := true }, kinds := [], alts := [], laidByText := true, laidKinds := [.pinned, .data, .sentinel, .sentinel, .data, .data, .data], laidTests := true, laidLooks := .later }
def ManagerGivesCardSaid : Prop := Claim7.holds Tryz.pinned (.plain (OpenSpec.ofChange managerGivesSpec)) managerGivesCard

/-- THE TIED CARD OF 'dispatchlaw19.ManagerEpochs'. -/
def managerEpochsCard : Claim7 := { stood := { row := managerEpochsRow, standIns := [], harness := (true, "4d5b6e6ab36eced91414e05653eaea854775cf71e4fcbf39ee02a2969fa8e8f1"), looks := true }, kinds := [], alts := [], laidByText := true, laidKinds := [.pinned, .data, .sentinel, .sentinel, .data, .data, .data], laidTests := true, laidLooks := .later }
def ManagerEpochsCardSaid : Prop := Claim7.holds Tryz.pinned (.plain (OpenSpec.ofChange managerEpochsSpec)) managerEpochsCard

/-- THE SECOND FORM's CARD OF 'dispatchlaw19.ManagerAsks'. -/
def managerAsksUptoCard : Claim7 := { stood := { row := managerAsksUptoRow, standIns := [], harness := (true, "4d5b6e6ab36eced91414e05653eaea854775cf71e4fcbf39ee02a2969fa8e8f1"), looks := true }, kinds := [], alts := [], laidByText := true, laidKinds := [.pinned, .data, .sentinel, .sentinel, .data, .data, .data], laidTests := true, laidLooks := .later }
def ManagerAsksUptoCardSaid : Prop := Claim7.holds Tryz.pinned (.plain (OpenSpec.upto managerAsksSpec)) managerAsksUptoCard

/-- THE SECOND FORM's CARD OF 'dispatchlaw19.ManagerGives'. -/
def managerGivesUptoCard : Claim7 := { stood := { row := managerGivesUptoRow, standIns := [], harness := (true, "4d5b6e6ab36eced91414e05653eaea854775cf71e4fcbf39ee02a2969fa8e8f1"), looks := true }, kinds := [], alts := [], laidByText := true, laidKinds := [.pinned, .data, .sentinel, .sentinel, .data, .data, .data], laidTests := true, laidLooks := .later }
def ManagerGivesUptoCardSaid : Prop := Claim7.holds Tryz.pinned (.plain (OpenSpec.upto managerGivesSpec)) managerGivesUptoCard

/-- THE SECOND FORM's CARD OF 'dispatchlaw19.ManagerEpochs'. -/
def managerEpochsUptoCard : Claim7 := { stood := { row := managerEpochsUptoRow, standIns := [], harness := (true, "4d5b6e6ab36eced91414e05653eaea854775cf71e4fcbf39ee02a2969fa8e8f1"), looks := true }, kinds := [], alts := [], laidByText := true, laidKinds := [.pinned, .data, .sentinel, .sentinel, .data, .data, .data], laidTests := true, laidLooks := .later }
def ManagerEpochsUptoCardSaid : Prop := Claim7.holds Tryz.pinned (.plain (OpenSpec.upto managerEpochsSpec)) managerEpochsUptoCard
end Rows
end Go.Proofs.YtehpnjmgjmkjaaaGreatDoor
