/-
  DERIVED. GIVEN WITH THE SEED: THE CARDS: each row of YtdifanfcaemokaaGreatDoorRows.lean that lists a variable, with what it lists TIED to the program's text (the seventh form; the later family's looks); each row that meets fmt, with fmt's text TOLD by the authors' own Lean function (tested against real Go, not proved from fmt's source: count such statements apart). THE CARD IS WHAT COUNTS. Prove the row's statement (the work); the ties are given (YtdifanfcaemokaaGreatDoorTie.lean); close each card by the builder's one call (the guide's Derived/Test/ToyasCard.lean, 'card_holds'). Laid BY PROGRAM, IN A SANDBOX (cutbox-door.mjs). By AI agents, Wed Nov 11 2026. No macro, syntax, notation, axiom, sorry.
-/
import Derived.Test.YtdifanfcaemokaaGreatDoorRows
import GoSem.ClaimSeven
namespace Go.Proofs.YtdifanfcaemokaaGreatDoor
namespace Rows

/-- THE TIED CARD OF 'tollwaylaw48.EngineNews'. -/
def engineNewsCard : Claim7 := { stood := { row := engineNewsRow, standIns := [], harness := (true, "34b1cec1a702229e11fda288da0d4dbbc43bb85a5d2c984ab143fbf5c7933d67"), looks := false }, kinds := [], alts := [], laidByText := true, laidKinds := [.data, .data, .data, .pinned, .data, .data], laidTests := true, laidLooks := .later }
def EngineNewsCardSaid : Prop := Claim7.holds Tryz.pinned (.plain (OpenSpec.ofChange engineNewsSpec)) engineNewsCard

/-- THE SECOND FORM's CARD OF 'tollwaylaw48.EngineNews'. -/
def engineNewsUptoCard : Claim7 := { stood := { row := engineNewsUptoRow, standIns := [], harness := (true, "34b1cec1a702229e11fda288da0d4dbbc43bb85a5d2c984ab143fbf5c7933d67"), looks := false }, kinds := [], alts := [], laidByText := true, laidKinds := [.data, .data, .data, .pinned, .data, .data], laidTests := true, laidLooks := .later }
def EngineNewsUptoCardSaid : Prop := Claim7.holds Tryz.pinned (.plain (OpenSpec.upto engineNewsSpec)) engineNewsUptoCard
end Rows
end Go.Proofs.YtdifanfcaemokaaGreatDoor
