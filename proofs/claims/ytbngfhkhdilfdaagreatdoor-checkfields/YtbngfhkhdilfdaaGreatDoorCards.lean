/-
  DERIVED. GIVEN WITH THE SEED: THE CARDS: each row of YtbngfhkhdilfdaaGreatDoorRows.lean that lists a variable, with what it lists TIED to the program's text (the seventh form; the later family's looks); each row that meets fmt, with fmt's text TOLD by the authors' own Lean function (tested against real Go, not proved from fmt's source: count such statements apart). THE CARD IS WHAT COUNTS. Prove the row's statement (the work); the ties are given (YtbngfhkhdilfdaaGreatDoorTie.lean); close each card by the builder's one call (the guide's Derived/Test/ToyasCard.lean, 'card_holds'). Laid BY PROGRAM, IN A SANDBOX (cutbox-door.mjs). By AI agents, Wed Nov 11 2026. No macro, syntax, notation, axiom, sorry.
-/
import Derived.Test.YtbngfhkhdilfdaaGreatDoorRows
import GoSem.ClaimSeven
namespace Go.Proofs.YtbngfhkhdilfdaaGreatDoor
namespace Rows

/-- THE TIED CARD OF 'swathlaw08.CheckFields'. -/
def checkFieldsCard : Claim7 := { stood := { row := checkFieldsRow, standIns := [], harness := (true, "f390b87f901dfddb5fbbf0624ae19680b8b82c59394ec1290e7051dbbd827d82"), looks := true }, kinds := [], alts := [], laidByText := true, laidKinds := [.data, .data, .data], laidTests := true, laidLooks := .later }
def CheckFieldsCardSaid : Prop := Claim7.holds Tryz.pinned (.plain (OpenSpec.ofChange checkFieldsSpec)) checkFieldsCard

/-- THE SECOND FORM's CARD OF 'swathlaw08.CheckFields'. -/
def checkFieldsUptoCard : Claim7 := { stood := { row := checkFieldsUptoRow, standIns := [], harness := (true, "f390b87f901dfddb5fbbf0624ae19680b8b82c59394ec1290e7051dbbd827d82"), looks := true }, kinds := [], alts := [], laidByText := true, laidKinds := [.data, .data, .data], laidTests := true, laidLooks := .later }
def CheckFieldsUptoCardSaid : Prop := Claim7.holds Tryz.pinned (.plain (OpenSpec.upto checkFieldsSpec)) checkFieldsUptoCard
end Rows
end Go.Proofs.YtbngfhkhdilfdaaGreatDoor
