/-
  DERIVED. GIVEN WITH THE SEED: THE CARDS: each row of YtpadimnchmghpaaGreatDoorRows.lean that lists a variable, with what it lists TIED to the program's text (the seventh form; the later family's looks); each row that meets fmt, with fmt's text TOLD by the authors' own Lean function (tested against real Go, not proved from fmt's source: count such statements apart). THE CARD IS WHAT COUNTS. Prove the row's statement (the work); the ties are given (YtpadimnchmghpaaGreatDoorTie.lean); close each card by the builder's one call (the guide's Derived/Test/ToyasCard.lean, 'card_holds'). Laid BY PROGRAM, IN A SANDBOX (cutbox-door.mjs). By AI agents, Wed Nov 11 2026. No macro, syntax, notation, axiom, sorry.
-/
import Derived.Test.YtpadimnchmghpaaGreatDoorRows
import GoSem.ClaimSeven
namespace Go.Proofs.YtpadimnchmghpaaGreatDoor
namespace Rows

/-- THE TIED CARD OF 'tollwaylaw50.AuditLeaves'. -/
def auditLeavesCard : Claim7 := { stood := { row := auditLeavesRow, standIns := [], harness := (true, "b9dd22eb019de54ef63f218027079813b448b71d30c7d0fa4413a60af9914b9b"), looks := true }, kinds := [], alts := [], laidByText := true, laidKinds := [.data, .data, .data, .data], laidTests := true, laidLooks := .later }
def AuditLeavesCardSaid : Prop := Claim7.holds Tryz.pinned (.plain (OpenSpec.ofChange auditLeavesSpec)) auditLeavesCard

/-- THE TIED CARD OF 'tollwaylaw50.AuditLocates'. -/
def auditLocatesCard : Claim7 := { stood := { row := auditLocatesRow, standIns := [], harness := (true, "b9dd22eb019de54ef63f218027079813b448b71d30c7d0fa4413a60af9914b9b"), looks := true }, kinds := [], alts := [], laidByText := true, laidKinds := [.data, .data, .data, .data], laidTests := true, laidLooks := .later }
def AuditLocatesCardSaid : Prop := Claim7.holds Tryz.pinned (.plain (OpenSpec.ofChange auditLocatesSpec)) auditLocatesCard

/-- THE TIED CARD OF 'tollwaylaw50.AuditDays'. -/
def auditDaysCard : Claim7 := { stood := { row := auditDaysRow, standIns := [], harness := (true, "b9dd22eb019de54ef63f218027079813b448b71d30c7d0fa4413a60af9914b9b"), looks := true }, kinds := [], alts := [], laidByText := true, laidKinds := [.data, .data, .data, .data], laidTests := true, laidLooks := .later }
def AuditDaysCardSaid : Prop := Claim7.holds Tryz.pinned (.plain (OpenSpec.ofChange auditDaysSpec)) auditDaysCard

/-- THE TIED CARD OF 'tollwaylaw50.AuditOnly'. -/
def auditOnlyCard : Claim7 := { stood := { row := auditOnlyRow, standIns := [], harness := (true, "b9dd22eb019de54ef63f218027079813b448b71d30c7d0fa4413a60af9914b9b"), looks := true }, kinds := [], alts := [], laidByText := true, laidKinds := [.data, .data, .data, .data], laidTests := true, laidLooks := .later }
def AuditOnlyCardSaid : Prop := Claim7.holds Tryz.pinned (.plain (OpenSpec.ofChange auditOnlySpec)) auditOnlyCard

/-- THE TIED CARD OF 'tollwaylaw50.AuditPairs'. -/
def auditPairsCard : Claim7 := { stood := { row := auditPairsRow, standIns := [], harness := (true, "b9dd22eb019de54ef63f218027079813b448b71d30c7d0fa4413a60af9914b9b"), looks := true }, kinds := [], alts := [], laidByText := true, laidKinds := [.data, .data, .data, .data], laidTests := true, laidLooks := .later }
def AuditPairsCardSaid : Prop := Claim7.holds Tryz.pinned (.plain (OpenSpec.ofChange auditPairsSpec)) auditPairsCard

/-- THE TIED CARD OF 'tollwaylaw50.AuditTurns'. -/
def auditTurnsCard : Claim7 := { stood := { row := auditTurnsRow, standIns := [], harness := (true, "b9dd22eb019de54ef63f218027079813b448b71d30c7d0fa4413a60af9914b9b"), looks := true }, kinds := [], alts := [], laidByText := true, laidKinds := [.data, .data, .data, .data], laidTests := true, laidLooks := .later }
def AuditTurnsCardSaid : Prop := Claim7.holds Tryz.pinned (.plain (OpenSpec.ofChange auditTurnsSpec)) auditTurnsCard

/-- THE TIED CARD OF 'tollwaylaw50.AuditSums'. -/
def auditSumsCard : Claim7 := { stood := { row := auditSumsRow, standIns := [], harness := (true, "b9dd22eb019de54ef63f218027079813b448b71d30c7d0fa4413a60af9914b9b"), looks := true }, kinds := [], alts := [], laidByText := true, laidKinds := [.data, .data, .data, .data], laidTests := true, laidLooks := .later }
def AuditSumsCardSaid : Prop := Claim7.holds Tryz.pinned (.plain (OpenSpec.ofChange auditSumsSpec)) auditSumsCard

/-- THE SECOND FORM's CARD OF 'tollwaylaw50.AuditLeaves'. -/
def auditLeavesUptoCard : Claim7 := { stood := { row := auditLeavesUptoRow, standIns := [], harness := (true, "b9dd22eb019de54ef63f218027079813b448b71d30c7d0fa4413a60af9914b9b"), looks := true }, kinds := [], alts := [], laidByText := true, laidKinds := [.data, .data, .data, .data], laidTests := true, laidLooks := .later }
def AuditLeavesUptoCardSaid : Prop := Claim7.holds Tryz.pinned (.plain (OpenSpec.upto auditLeavesSpec)) auditLeavesUptoCard

/-- THE SECOND FORM's CARD OF 'tollwaylaw50.AuditLocates'. -/
def auditLocatesUptoCard : Claim7 := { stood := { row := auditLocatesUptoRow, standIns := [], harness := (true, "b9dd22eb019de54ef63f218027079813b448b71d30c7d0fa4413a60af9914b9b"), looks := true }, kinds := [], alts := [], laidByText := true, laidKinds := [.data, .data, .data, .data], laidTests := true, laidLooks := .later }
def AuditLocatesUptoCardSaid : Prop := Claim7.holds Tryz.pinned (.plain (OpenSpec.upto auditLocatesSpec)) auditLocatesUptoCard

/-- THE SECOND FORM's CARD OF 'tollwaylaw50.AuditDays'. -/
def auditDaysUptoCard : Claim7 := { stood := { row := auditDaysUptoRow, standIns := [], harness := (true, "b9dd22eb019de54ef63f218027079813b448b71d30c7d0fa4413a60af9914b9b"), looks := true }, kinds := [], alts := [], laidByText := true, laidKinds := [.data, .data, .data, .data], laidTests := true, laidLooks := .later }
def AuditDaysUptoCardSaid : Prop := Claim7.holds Tryz.pinned (.plain (OpenSpec.upto auditDaysSpec)) auditDaysUptoCard

/-- THE SECOND FORM's CARD OF 'tollwaylaw50.AuditOnly'. -/
def auditOnlyUptoCard : Claim7 := { stood := { row := auditOnlyUptoRow, standIns := [], harness := (true, "b9dd22eb019de54ef63f218027079813b448b71d30c7d0fa4413a60af9914b9b"), looks := true }, kinds := [], alts := [], laidByText := true, laidKinds := [.data, .data, .data, .data], laidTests := true, laidLooks := .later }
def AuditOnlyUptoCardSaid : Prop := Claim7.holds Tryz.pinned (.plain (OpenSpec.upto auditOnlySpec)) auditOnlyUptoCard

/-- THE SECOND FORM's CARD OF 'tollwaylaw50.AuditPairs'. -/
def auditPairsUptoCard : Claim7 := { stood := { row := auditPairsUptoRow, standIns := [], harness := (true, "b9dd22eb019de54ef63f218027079813b448b71d30c7d0fa4413a60af9914b9b"), looks := true }, kinds := [], alts := [], laidByText := true, laidKinds := [.data, .data, .data, .data], laidTests := true, laidLooks := .later }
def AuditPairsUptoCardSaid : Prop := Claim7.holds Tryz.pinned (.plain (OpenSpec.upto auditPairsSpec)) auditPairsUptoCard

/-- THE SECOND FORM's CARD OF 'tollwaylaw50.AuditTurns'. -/
def auditTurnsUptoCard : Claim7 := { stood := { row := auditTurnsUptoRow, standIns := [], harness := (true, "b9dd22eb019de54ef63f218027079813b448b71d30c7d0fa4413a60af9914b9b"), looks := true }, kinds := [], alts := [], laidByText := true, laidKinds := [.data, .data, .data, .data], laidTests := true, laidLooks := .later }
def AuditTurnsUptoCardSaid : Prop := Claim7.holds Tryz.pinned (.plain (OpenSpec.upto auditTurnsSpec)) auditTurnsUptoCard

/-- THE SECOND FORM's CARD OF 'tollwaylaw50.AuditSums'. -/
def auditSumsUptoCard : Claim7 := { stood := { row := auditSumsUptoRow, standIns := [], harness := (true, "b9dd22eb019de54ef63f218027079813b448b71d30c7d0fa4413a60af9914b9b"), looks := true }, kinds := [], alts := [], laidByText := true, laidKinds := [.data, .data, .data, .data], laidTests := true, laidLooks := .later }
def AuditSumsUptoCardSaid : Prop := Claim7.holds Tryz.pinned (.plain (OpenSpec.upto auditSumsSpec)) auditSumsUptoCard
end Rows
end Go.Proofs.YtpadimnchmghpaaGreatDoor
