/-
  DERIVED. GIVEN WITH THE SEED: THE CARDS: each row of YtlmkakccmpncjaaGreatDoorRows.lean that lists a variable, with what it lists TIED to the program's text (the seventh form; the later family's looks); each row that meets fmt, with fmt's text TOLD by the authors' own Lean function (tested against real Go, not proved from fmt's source: count such statements apart). THE CARD IS WHAT COUNTS. Prove the row's statement (the work); the ties are given (YtlmkakccmpncjaaGreatDoorTie.lean); close each card by the builder's one call (the guide's Derived/Test/ToyasCard.lean, 'card_holds'). Laid BY PROGRAM, IN A SANDBOX (cutbox-door.mjs). By AI agents, Wed Nov 11 2026. No macro, syntax, notation, axiom, sorry.
-/
import Derived.Test.YtlmkakccmpncjaaGreatDoorRows
import GoSem.ClaimSeven
namespace Go.Proofs.YtlmkakccmpncjaaGreatDoor
namespace Rows

/-- THE TIED CARD OF 'dispatchlaw19.ManagerGives'. -/
def managerGivesCard : Claim7 := { stood := { row := managerGivesRow, standIns := [], harness := (true, "d1afb938a889a9d65743a8f98046832c9afbaf51a614aa5f8a4aa9420d2e4724"), looks := true }, kinds := [], alts := [], laidByText := true, laidKinds := [.pinned, .data, .sentinel, .sentinel, .data, .data, .data], laidTests := true, laidLooks := .later }
def ManagerGivesCardSaid : Prop := Claim7.holds Tryz.pinned (.plain (OpenSpec.ofChange managerGivesSpec)) managerGivesCard

/-- THE SECOND FORM's CARD OF 'dispatchlaw19.ManagerGives'. -/
def managerGivesUptoCard : Claim7 := { stood := { row := managerGivesUptoRow, standIns := [], harness := (true, "d1afb938a889a9d65743a8f98046832c9afbaf51a614aa5f8a4aa9420d2e4724"), looks := true }, kinds := [], alts := [], laidByText := true, laidKinds := [.pinned, .data, .sentinel, .sentinel, .data, .data, .data], laidTests := true, laidLooks := .later }
def ManagerGivesUptoCardSaid : Prop := Claim7.holds Tryz.pinned (.plain (OpenSpec.upto managerGivesSpec)) managerGivesUptoCard
end Rows
end Go.Proofs.YtlmkakccmpncjaaGreatDoor
