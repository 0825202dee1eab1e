/-
  DERIVED. GIVEN WITH THE SEED: THE CARDS: each row of YtmnkbfflpgmkmaaGreatDoorRows.lean that lists a variable, with what it lists TIED to the program's text (the seventh form; the later family's looks); each row that meets fmt, with fmt's text TOLD by the authors' own Lean function (tested against real Go, not proved from fmt's source: count such statements apart). THE CARD IS WHAT COUNTS. Prove the row's statement (the work); the ties are given (YtmnkbfflpgmkmaaGreatDoorTie.lean); close each card by the builder's one call (the guide's Derived/Test/ToyasCard.lean, 'card_holds'). Laid BY PROGRAM, IN A SANDBOX (cutbox-door.mjs). By AI agents, Wed Nov 11 2026. No macro, syntax, notation, axiom, sorry.
-/
import Derived.Test.YtmnkbfflpgmkmaaGreatDoorRows
import GoSem.ClaimSeven
namespace Go.Proofs.YtmnkbfflpgmkmaaGreatDoor
namespace Rows

/-- THE TIED CARD OF 'dispatchlaw19.ManagerNode'. -/
def managerNodeCard : Claim7 := { stood := { row := managerNodeRow, standIns := [], harness := (true, "546692a9dfb76f909debe733202d3a31484fcc28a180e717cb5ec2450f0a9c57"), looks := true }, kinds := [], alts := [], laidByText := true, laidKinds := [.data, .data, .data, .data, .sentinel, .sentinel, .pinned], laidTests := true, laidLooks := .later }
def ManagerNodeCardSaid : Prop := Claim7.holds Tryz.pinned (.plain (OpenSpec.ofChange managerNodeSpec)) managerNodeCard

/-- THE TIED CARD OF 'dispatchlaw19.ManagerMaster'. -/
def managerMasterCard : Claim7 := { stood := { row := managerMasterRow, standIns := [], harness := (true, "546692a9dfb76f909debe733202d3a31484fcc28a180e717cb5ec2450f0a9c57"), looks := true }, kinds := [], alts := [], laidByText := true, laidKinds := [.data, .data, .data, .data, .sentinel, .sentinel, .pinned], laidTests := true, laidLooks := .later }
def ManagerMasterCardSaid : Prop := Claim7.holds Tryz.pinned (.plain (OpenSpec.ofChange managerMasterSpec)) managerMasterCard

/-- THE TIED CARD OF 'dispatchlaw19.ManagerBeats'. -/
def managerBeatsCard : Claim7 := { stood := { row := managerBeatsRow, standIns := [], harness := (true, "546692a9dfb76f909debe733202d3a31484fcc28a180e717cb5ec2450f0a9c57"), looks := true }, kinds := [], alts := [], laidByText := true, laidKinds := [.data, .data, .data, .data, .sentinel, .sentinel, .pinned], laidTests := true, laidLooks := .later }
def ManagerBeatsCardSaid : Prop := Claim7.holds Tryz.pinned (.plain (OpenSpec.ofChange managerBeatsSpec)) managerBeatsCard

/-- THE SECOND FORM's CARD OF 'dispatchlaw19.ManagerNode'. -/
def managerNodeUptoCard : Claim7 := { stood := { row := managerNodeUptoRow, standIns := [], harness := (true, "546692a9dfb76f909debe733202d3a31484fcc28a180e717cb5ec2450f0a9c57"), looks := true }, kinds := [], alts := [], laidByText := true, laidKinds := [.data, .data, .data, .data, .sentinel, .sentinel, .pinned], laidTests := true, laidLooks := .later }
def ManagerNodeUptoCardSaid : Prop := Claim7.holds Tryz.pinned (.plain (OpenSpec.upto managerNodeSpec)) managerNodeUptoCard

/-- THE SECOND FORM's CARD OF 'dispatchlaw19.ManagerMaster'. -/
def managerMasterUptoCard : Claim7 := { stood := { row := managerMasterUptoRow, standIns := [], harness := (true, "546692a9dfb76f909debe733202d3a31484fcc28a180e717cb5ec2450f0a9c57"), looks := true }, kinds := [], alts := [], laidByText := true, laidKinds := [.data, .data, .data, .data, .sentinel, .sentinel, .pinned], laidTests := true, laidLooks := .later }
def ManagerMasterUptoCardSaid : Prop := Claim7.holds Tryz.pinned (.plain (OpenSpec.upto managerMasterSpec)) managerMasterUptoCard

/-- THE SECOND FORM's CARD OF 'dispatchlaw19.ManagerBeats'. -/
def managerBeatsUptoCard : Claim7 := { stood := { row := managerBeatsUptoRow, standIns := [], harness := (true, "546692a9dfb76f909debe733202d3a31484fcc28a180e717cb5ec2450f0a9c57"), looks := true }, kinds := [], alts := [], laidByText := true, laidKinds := [.data, .data, .data, .data, .sentinel, .sentinel, .pinned], laidTests := true, laidLooks := .later }
def ManagerBeatsUptoCardSaid : Prop := Claim7.holds Tryz.pinned (.plain (OpenSpec.upto managerBeatsSpec)) managerBeatsUptoCard
end Rows
end Go.Proofs.YtmnkbfflpgmkmaaGreatDoor
