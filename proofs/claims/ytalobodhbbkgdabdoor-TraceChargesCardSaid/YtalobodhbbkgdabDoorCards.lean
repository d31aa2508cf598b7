/-
  DERIVED. GIVEN WITH THE SEED: THE CARDS: each row of YtalobodhbbkgdabDoorRows.lean that lists a variable, with what it lists TIED to the program's text (the seventh form; the later family's looks); each row that meets fmt, with fmt's text TOLD by the authors' own Lean function (tested against real Go, not proved from fmt's source: count such statements apart). THE CARD IS WHAT COUNTS. Prove the row's statement (the work); the ties are given (YtalobodhbbkgdabDoorTie.lean); close each card by the builder's one call (the guide's Derived/Test/ToyasCard.lean, 'card_holds'). Laid BY PROGRAM, IN A SANDBOX (cutbox-door.mjs). By AI agents, Wed Nov 11 2026. No macro, syntax, notation, axiom, sorry.
-/
import Derived.Test.YtalobodhbbkgdabDoorRows
import GoSem.ClaimSeven
namespace Go.Proofs.YtalobodhbbkgdabDoor
namespace Rows

/-- THE TIED CARD OF 'tollwaylaw52.TraceDetections'. -/
def traceDetectionsCard : Claim7 := { stood := { row := traceDetectionsRow, standIns := [], harness := (true, "6deb85ce273857812f142affee5bbd356ab83e6dc99d2af60a8f823a4f841f73"), looks := false }, kinds := [], alts := [], laidByText := true, laidKinds := [.data, .data, .data], laidTests := true, laidLooks := .later }
def TraceDetectionsCardSaid : Prop := Claim7.holds Tryd.pinned (.plain (OpenSpec.ofChange traceDetectionsSpec)) traceDetectionsCard

/-- THE TIED CARD OF 'tollwaylaw52.TraceCharges'. -/
def traceChargesCard : Claim7 := { stood := { row := traceChargesRow, standIns := [], harness := (true, "6deb85ce273857812f142affee5bbd356ab83e6dc99d2af60a8f823a4f841f73"), looks := false }, kinds := [], alts := [], laidByText := true, laidKinds := [.data, .data, .data], laidTests := true, laidLooks := .later }
def TraceChargesCardSaid : Prop := Claim7.holds Tryd.pinned (.plain (OpenSpec.ofChange traceChargesSpec)) traceChargesCard

/-- THE TIED CARD OF 'tollwaylaw52.TracePrints'. -/
def tracePrintsCard : Claim7 := { stood := { row := tracePrintsRow, standIns := [], harness := (true, "6deb85ce273857812f142affee5bbd356ab83e6dc99d2af60a8f823a4f841f73"), looks := false }, kinds := [], alts := [], laidByText := true, laidKinds := [.data, .data, .data], laidTests := true, laidLooks := .later }
def TracePrintsCardSaid : Prop := Claim7.holds Tryd.pinned (.plain (OpenSpec.ofChange tracePrintsSpec)) tracePrintsCard

/-- THE TIED CARD OF 'tollwaylaw52.TracePassages'. -/
def tracePassagesCard : Claim7 := { stood := { row := tracePassagesRow, standIns := [], harness := (true, "6deb85ce273857812f142affee5bbd356ab83e6dc99d2af60a8f823a4f841f73"), looks := false }, kinds := [], alts := [], laidByText := true, laidKinds := [.data, .data, .data], laidTests := true, laidLooks := .later }
def TracePassagesCardSaid : Prop := Claim7.holds Tryd.pinned (.plain (OpenSpec.ofChange tracePassagesSpec)) tracePassagesCard

/-- THE SECOND FORM's CARD OF 'tollwaylaw52.TraceDetections'. -/
def traceDetectionsUptoCard : Claim7 := { stood := { row := traceDetectionsUptoRow, standIns := [], harness := (true, "6deb85ce273857812f142affee5bbd356ab83e6dc99d2af60a8f823a4f841f73"), looks := false }, kinds := [], alts := [], laidByText := true, laidKinds := [.data, .data, .data], laidTests := true, laidLooks := .later }
def TraceDetectionsUptoCardSaid : Prop := Claim7.holds Tryd.pinned (.plain (OpenSpec.upto traceDetectionsSpec)) traceDetectionsUptoCard

/-- THE SECOND FORM's CARD OF 'tollwaylaw52.TraceCharges'. -/
def traceChargesUptoCard : Claim7 := { stood := { row := traceChargesUptoRow, standIns := [], harness := (true, "6deb85ce273857812f142affee5bbd356ab83e6dc99d2af60a8f823a4f841f73"), looks := false }, kinds := [], alts := [], laidByText := true, laidKinds := [.data, .data, .data], laidTests := true, laidLooks := .later }
def TraceChargesUptoCardSaid : Prop := Claim7.holds Tryd.pinned (.plain (OpenSpec.upto traceChargesSpec)) traceChargesUptoCard

/-- THE SECOND FORM's CARD OF 'tollwaylaw52.TracePrints'. -/
def tracePrintsUptoCard : Claim7 := { stood := { row := tracePrintsUptoRow, standIns := [], harness := (true, "6deb85ce273857812f142affee5bbd356ab83e6dc99d2af60a8f823a4f841f73"), looks := false }, kinds := [], alts := [], laidByText := true, laidKinds := [.data, .data, .data], laidTests := true, laidLooks := .later }
def TracePrintsUptoCardSaid : Prop := Claim7.holds Tryd.pinned (.plain (OpenSpec.upto tracePrintsSpec)) tracePrintsUptoCard

/-- THE SECOND FORM's CARD OF 'tollwaylaw52.TracePassages'. -/
def tracePassagesUptoCard : Claim7 := { stood := { row := tracePassagesUptoRow, standIns := [], harness := (true, "6deb85ce273857812f142affee5bbd356ab83e6dc99d2af60a8f823a4f841f73"), looks := false }, kinds := [], alts := [], laidByText := true, laidKinds := [.data, .data, .data], laidTests := true, laidLooks := .later }
def TracePassagesUptoCardSaid : Prop := Claim7.holds Tryd.pinned (.plain (OpenSpec.upto tracePassagesSpec)) tracePassagesUptoCard
end Rows
end Go.Proofs.YtalobodhbbkgdabDoor
