/-
  DERIVED. GIVEN WITH THE SEED: THE CARDS: each row of YtbcmfkognanjdaaGreatDoorRows.lean that lists a variable, with what it lists TIED to the program's text (the seventh form; the later family's looks); each row that meets fmt, with fmt's text TOLD by the authors' own Lean function (tested against real Go, not proved from fmt's source: count such statements apart). THE CARD IS WHAT COUNTS. Prove the row's statement (the work); the ties are given (YtbcmfkognanjdaaGreatDoorTie.lean); close each card by the builder's one call (the guide's Derived/Test/ToyasCard.lean, 'card_holds'). Laid BY PROGRAM, IN A SANDBOX (cutbox-door.mjs). By AI agents, Wed Nov 11 2026. No macro, syntax, notation, axiom, sorry.
-/
import Derived.Test.YtbcmfkognanjdaaGreatDoorRows
import GoSem.ClaimSeven
namespace Go.Proofs.YtbcmfkognanjdaaGreatDoor
namespace Rows

/-- THE TIED CARD OF 'dispatchlaw22.FedSubmits'. -/
def fedSubmitsCard : Claim7 := { stood := { row := fedSubmitsRow, standIns := [], harness := (true, "ad481ea4c5eb76132c5e512cdfa4806eceeb8d18f1d8c8368f6c3b5de6c2e7b1"), looks := true }, kinds := [], alts := [], laidByText := true, laidKinds := [.data, .data, .data, .data, .sentinel, .sentinel, .pinned], laidTests := true, laidLooks := .later }
def FedSubmitsCardSaid : Prop := Claim7.holds Tryz.pinned (.plain (OpenSpec.ofChange fedSubmitsSpec)) fedSubmitsCard

/-- THE TIED CARD OF 'dispatchlaw22.FedRacks'. -/
def fedRacksCard : Claim7 := { stood := { row := fedRacksRow, standIns := [], harness := (true, "ad481ea4c5eb76132c5e512cdfa4806eceeb8d18f1d8c8368f6c3b5de6c2e7b1"), looks := true }, kinds := [], alts := [], laidByText := true, laidKinds := [.data, .data, .data, .data, .sentinel, .sentinel, .pinned], laidTests := true, laidLooks := .later }
def FedRacksCardSaid : Prop := Claim7.holds Tryz.pinned (.plain (OpenSpec.ofChange fedRacksSpec)) fedRacksCard

/-- THE TIED CARD OF 'dispatchlaw22.FedWaits'. -/
def fedWaitsCard : Claim7 := { stood := { row := fedWaitsRow, standIns := [], harness := (true, "ad481ea4c5eb76132c5e512cdfa4806eceeb8d18f1d8c8368f6c3b5de6c2e7b1"), looks := true }, kinds := [], alts := [], laidByText := true, laidKinds := [.data, .data, .data, .data, .sentinel, .sentinel, .pinned], laidTests := true, laidLooks := .later }
def FedWaitsCardSaid : Prop := Claim7.holds Tryz.pinned (.plain (OpenSpec.ofChange fedWaitsSpec)) fedWaitsCard

/-- THE TIED CARD OF 'dispatchlaw22.FedRefuses'. -/
def fedRefusesCard : Claim7 := { stood := { row := fedRefusesRow, standIns := [], harness := (true, "ad481ea4c5eb76132c5e512cdfa4806eceeb8d18f1d8c8368f6c3b5de6c2e7b1"), looks := true }, kinds := [], alts := [], laidByText := true, laidKinds := [.data, .data, .data, .data, .sentinel, .sentinel, .pinned], laidTests := true, laidLooks := .later }
def FedRefusesCardSaid : Prop := Claim7.holds Tryz.pinned (.plain (OpenSpec.ofChange fedRefusesSpec)) fedRefusesCard

/-- THE SECOND FORM's CARD OF 'dispatchlaw22.FedSubmits'. -/
def fedSubmitsUptoCard : Claim7 := { stood := { row := fedSubmitsUptoRow, standIns := [], harness := (true, "ad481ea4c5eb76132c5e512cdfa4806eceeb8d18f1d8c8368f6c3b5de6c2e7b1"), looks := true }, kinds := [], alts := [], laidByText := true, laidKinds := [.data, .data, .data, .data, .sentinel, .sentinel, .pinned], laidTests := true, laidLooks := .later }
def FedSubmitsUptoCardSaid : Prop := Claim7.holds Tryz.pinned (.plain (OpenSpec.upto fedSubmitsSpec)) fedSubmitsUptoCard

/-- THE SECOND FORM's CARD OF 'dispatchlaw22.FedRacks'. -/
def fedRacksUptoCard : Claim7 := { stood := { row := fedRacksUptoRow, standIns := [], harness := (true, "ad481ea4c5eb76132c5e512cdfa4806eceeb8d18f1d8c8368f6c3b5de6c2e7b1"), looks := true }, kinds := [], alts := [], laidByText := true, laidKinds := [.data, .data, .data, .data, .sentinel, .sentinel, .pinned], laidTests := true, laidLooks := .later }
def FedRacksUptoCardSaid : Prop := Claim7.holds Tryz.pinned (.plain (OpenSpec.upto fedRacksSpec)) fedRacksUptoCard

/-- THE SECOND FORM's CARD OF 'dispatchlaw22.FedWaits'. -/
def fedWaitsUptoCard : Claim7 := { stood := { row := fedWaitsUptoRow, standIns := [], harness := (true, "ad481ea4c5eb76132c5e512cdfa4806eceeb8d18f1d8c8368f6c3b5de6c2e7b1"), looks := true }, kinds := [], alts := [], laidByText := true, laidKinds := [.data, .data, .data, .data, .sentinel, .sentinel, .pinned], laidTests := true, laidLooks := .later }
def FedWaitsUptoCardSaid : Prop := Claim7.holds Tryz.pinned (.plain (OpenSpec.upto fedWaitsSpec)) fedWaitsUptoCard

/-- THE SECOND FORM's CARD OF 'dispatchlaw22.FedRefuses'. -/
def fedRefusesUptoCard : Claim7 := { stood := { row := fedRefusesUptoRow, standIns := [], harness := (true, "ad481ea4c5eb76132c5e512cdfa4806eceeb8d18f1d8c8368f6c3b5de6c2e7b1"), looks := true }, kinds := [], alts := [], laidByText := true, laidKinds := [.data, .data, .data, .data, .sentinel, .sentinel, .pinned], laidTests := true, laidLooks := .later }
def FedRefusesUptoCardSaid : Prop := Claim7.holds Tryz.pinned (.plain (OpenSpec.upto fedRefusesSpec)) fedRefusesUptoCard
end Rows
end Go.Proofs.YtbcmfkognanjdaaGreatDoor
