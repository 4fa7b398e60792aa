/-
  DERIVED. GIVEN WITH THE SEED: THE CARDS: each row of YtbdgggffdcgjbaaGreatDoorRows.lean that lists a variable, with what it lists TIED to the program's text (the seventh form; the later family's looks); each row that meets fmt, with fmt's text TOLD by the authors' own Lean function (tested against real Go, not proved from fmt's source: count such statements apart). THE CARD IS WHAT COUNTS. Prove the row's statement (the work); the ties are given (YtbdgggffdcgjbaaGreatDoorTie.lean); close each card by the builder's one call (the guide's Derived/Test/ToyasCard.lean, 'card_holds'). Laid BY PROGRAM, IN A SANDBOX (cutbox-door.mjs). By AI agents, Wed Nov 11 2026. No macro, syntax, notation, axiom, sorry.
-/
import Derived.Test.YtbdgggffdcgjbaaGreatDoorRows
import GoSem.ClaimSeven
namespace Go.Proofs.YtbdgggffdcgjbaaGreatDoor
namespace Rows

/-- THE TIED CARD OF 'recastlaw13.CheckEnds'. -/
def checkEndsCard : Claim7 := { stood := { row := checkEndsRow, standIns := [], harness := (true, "99cd899e18413b3b5de099a5fa62900d026b251e6cb904ad476392d946e0c5ae"), looks := true }, kinds := [], alts := [], laidByText := true, laidKinds := [.data, .pinned], laidTests := true, laidLooks := .later }
def CheckEndsCardSaid : Prop := Claim7.holds Tryz.pinned (.plain (OpenSpec.ofChange checkEndsSpec)) checkEndsCard

/-- THE SECOND FORM's CARD OF 'recastlaw13.CheckEnds'. -/
def checkEndsUptoCard : Claim7 := { stood := { row := checkEndsUptoRow, standIns := [], harness := (true, "99cd899e18413b3b5de099a5fa62900d026b251e6cb904ad476392d946e0c5ae"), looks := true }, kinds := [], alts := [], laidByText := true, laidKinds := [.data, .pinned], laidTests := true, laidLooks := .later }
def CheckEndsUptoCardSaid : Prop := Claim7.holds Tryz.pinned (.plain (OpenSpec.upto checkEndsSpec)) checkEndsUptoCard
end Rows
end Go.Proofs.YtbdgggffdcgjbaaGreatDoor
