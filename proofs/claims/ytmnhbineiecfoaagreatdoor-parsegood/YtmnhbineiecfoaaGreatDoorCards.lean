/-
  DERIVED. GIVEN WITH THE SEED: THE CARDS: each row of YtmnhbineiecfoaaGreatDoorRows.lean that lists a variable, with what it lists TIED to the program's text (the seventh form; the later family's looks); each row that meets fmt, with fmt's text TOLD by the authors' own Lean function (tested against real Go, not proved from fmt's source: count such statements apart). THE CARD IS WHAT COUNTS. Prove the row's statement (the work); the ties are given (YtmnhbineiecfoaaGreatDoorTie.lean); close each card by the builder's one call (the guide's Derived/Test/ToyasCard.lean, 'card_holds'). Laid BY PROGRAM, IN A SANDBOX (cutbox-door.mjs). By AI agents, Wed Nov 11 2026. No macro, syntax, notation, axiom, sorry.
-/
import Derived.Test.YtmnhbineiecfoaaGreatDoorRows
import GoSem.ClaimSeven
namespace Go.Proofs.YtmnhbineiecfoaaGreatDoor
namespace Rows

/-- THE TIED CARD OF 'swathlaw06.ParseGood'. -/
def parseGoodCard : Claim7 := { stood := { row := parseGoodRow, standIns := [], harness := (true, "16716bf54cb50517c1e47a404b9bfe9e11e31fc6b09baa987cd0a1d95d48d4ce"), looks := true }, kinds := [], alts := [], laidByText := true, laidKinds := [.data, .data, .data], laidTests := true, laidLooks := .later }
def ParseGoodCardSaid : Prop := Claim7.holds Tryz.pinned (.plain (OpenSpec.ofChange parseGoodSpec)) parseGoodCard

/-- THE SECOND FORM's CARD OF 'swathlaw06.ParseGood'. -/
def parseGoodUptoCard : Claim7 := { stood := { row := parseGoodUptoRow, standIns := [], harness := (true, "16716bf54cb50517c1e47a404b9bfe9e11e31fc6b09baa987cd0a1d95d48d4ce"), looks := true }, kinds := [], alts := [], laidByText := true, laidKinds := [.data, .data, .data], laidTests := true, laidLooks := .later }
def ParseGoodUptoCardSaid : Prop := Claim7.holds Tryz.pinned (.plain (OpenSpec.upto parseGoodSpec)) parseGoodUptoCard
end Rows
end Go.Proofs.YtmnhbineiecfoaaGreatDoor
