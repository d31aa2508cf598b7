/-
  DERIVED. GIVEN WITH THE SEED: THE CARDS: each row of YtnlaiahcemckkaaGreatDoorRows.lean that lists a variable, with what it lists TIED to the program's text (the seventh form; the later family's looks); each row that meets fmt, with fmt's text TOLD by the authors' own Lean function (tested against real Go, not proved from fmt's source: count such statements apart). THE CARD IS WHAT COUNTS. Prove the row's statement (the work); the ties are given (YtnlaiahcemckkaaGreatDoorTie.lean); close each card by the builder's one call (the guide's Derived/Test/ToyasCard.lean, 'card_holds'). Laid BY PROGRAM, IN A SANDBOX (cutbox-door.mjs). By AI agents, Wed Nov 11 2026. No macro, syntax, notation, axiom, sorry.
-/
import Derived.Test.YtnlaiahcemckkaaGreatDoorRows
import GoSem.ClaimSeven
namespace Go.Proofs.YtnlaiahcemckkaaGreatDoor
namespace Rows

/-- THE TIED CARD OF 'tollwaylaw47.BatchSame'. -/
def batchSameCard : Claim7 := { stood := { row := batchSameRow, standIns := [], harness := (true, "903eeb24013ea9ceaf00eb871b3f91998cb6f805b808b7d80d03c26a7fa63b1b"), looks := false }, kinds := [], alts := [], laidByText := true, laidKinds := [.data, .data, .data, .data], laidTests := true, laidLooks := .later }
def BatchSameCardSaid : Prop := Claim7.holds Tryz.pinned (.plain (OpenSpec.ofChange batchSameSpec)) batchSameCard

/-- THE TIED CARD OF 'tollwaylaw47.BatchChecks'. -/
def batchChecksCard : Claim7 := { stood := { row := batchChecksRow, standIns := [], harness := (true, "903eeb24013ea9ceaf00eb871b3f91998cb6f805b808b7d80d03c26a7fa63b1b"), looks := false }, kinds := [], alts := [], laidByText := true, laidKinds := [.data, .data, .data, .data], laidTests := true, laidLooks := .later }
def BatchChecksCardSaid : Prop := Claim7.holds Tryz.pinned (.plain (OpenSpec.ofChange batchChecksSpec)) batchChecksCard

/-- THE SECOND FORM's CARD OF 'tollwaylaw47.BatchSame'. -/
def batchSameUptoCard : Claim7 := { stood := { row := batchSameUptoRow, standIns := [], harness := (true, "903eeb24013ea9ceaf00eb871b3f91998cb6f805b808b7d80d03c26a7fa63b1b"), looks := false }, kinds := [], alts := [], laidByText := true, laidKinds := [.data, .data, .data, .data], laidTests := true, laidLooks := .later }
def BatchSameUptoCardSaid : Prop := Claim7.holds Tryz.pinned (.plain (OpenSpec.upto batchSameSpec)) batchSameUptoCard

/-- THE SECOND FORM's CARD OF 'tollwaylaw47.BatchChecks'. -/
def batchChecksUptoCard : Claim7 := { stood := { row := batchChecksUptoRow, standIns := [], harness := (true, "903eeb24013ea9ceaf00eb871b3f91998cb6f805b808b7d80d03c26a7fa63b1b"), looks := false }, kinds := [], alts := [], laidByText := true, laidKinds := [.data, .data, .data, .data], laidTests := true, laidLooks := .later }
def BatchChecksUptoCardSaid : Prop := Claim7.holds Tryz.pinned (.plain (OpenSpec.upto batchChecksSpec)) batchChecksUptoCard
end Rows
end Go.Proofs.YtnlaiahcemckkaaGreatDoor
