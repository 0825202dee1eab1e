/-
  DERIVED. GIVEN WITH THE SEED: THE CARDS: each row of YtclpnndkhbnaoaaGreatDoorRows.lean that lists a variable, with what it lists TIED to the program's text (the seventh form; the later family's looks); each row that meets fmt, with fmt's text TOLD by the authors' own Lean function (tested against real Go, not proved from fmt's source: count such statements apart). THE CARD IS WHAT COUNTS. Prove the row's statement (the work); the ties are given (YtclpnndkhbnaoaaGreatDoorTie.lean); close each card by the builder's one call (the guide's Derived/Test/ToyasCard.lean, 'card_holds'). Laid BY PROGRAM, IN A SANDBOX (cutbox-door.mjs). By AI agents, Wed Nov 11 2026. No macro, syntax, notation, axiom, sorry.
-/
import Derived.Test.YtclpnndkhbnaoaaGreatDoorRows
import GoSem.ClaimSeven
namespace Go.Proofs.YtclpnndkhbnaoaaGreatDoor
namespace Rows

/-- THE TIED CARD OF 'dispatchlaw19.ManagerAsked'. -/
def managerAskedCard : Claim7 := { stood := { row := managerAskedRow, standIns := [], harness := (true, "b8f78065d40e699c9b79e9153356506aedc53074c0027cef6cfd904301c9b101"), looks := true }, kinds := [], alts := [], laidByText := true, laidKinds := [.data, .data, .data, .data, .sentinel, .sentinel, .pinned], laidTests := true, laidLooks := .later }
def ManagerAskedCardSaid : Prop := Claim7.holds Tryz.pinned (.plain (OpenSpec.ofChange managerAskedSpec)) managerAskedCard

/-- THE SECOND FORM's CARD OF 'dispatchlaw19.ManagerAsked'. -/
def managerAskedUptoCard : Claim7 := { stood := { row := managerAskedUptoRow, standIns := [], harness := (true, "b8f78065d40e699c9b79e9153356506aedc53074c0027cef6cfd904301c9b101"), looks := true }, kinds := [], alts := [], laidByText := true, laidKinds := [.data, .data, .data, .data, .sentinel, .sentinel, .pinned], laidTests := true, laidLooks := .later }
def ManagerAskedUptoCardSaid : Prop := Claim7.holds Tryz.pinned (.plain (OpenSpec.upto managerAskedSpec)) managerAskedUptoCard
end Rows
end Go.Proofs.YtclpnndkhbnaoaaGreatDoor
