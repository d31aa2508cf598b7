/-
  DERIVED. GIVEN WITH THE SEED: THE CARDS: each row of YteljonodbkkckaaDoorRows.lean that lists a variable, with what it lists TIED to the program's text (the seventh form; the later family's looks); each row that meets fmt, with fmt's text TOLD by the authors' own Lean function (tested against real Go, not proved from fmt's source: count such statements apart). THE CARD IS WHAT COUNTS. Prove the row's statement (the work); the ties are given (YteljonodbkkckaaDoorTie.lean); close each card by the builder's one call (the guide's Derived/Test/ToyasCard.lean, 'card_holds'). Laid BY PROGRAM, IN A SANDBOX (cutbox-door.mjs). By AI agents, Wed Nov 11 2026. No macro, syntax, notation, axiom, sorry.
-/
import Derived.Test.YteljonodbkkckaaDoorRows
import GoSem.ClaimSeven
namespace Go.Proofs.YteljonodbkkckaaDoor
namespace Rows

/-- THE TIED CARD OF 'tollwaylaw03.MoneyRatios'. -/
def moneyRatiosCard : Claim7 := { stood := { row := moneyRatiosRow, standIns := [], harness := (true, "19379959b048a30f9ec146a5980f45100aed2823ebc4c3b927006a608bde643a"), looks := false }, kinds := [], alts := [], laidByText := true, laidKinds := [.data, .data, .data], laidTests := true, laidLooks := .later }
def MoneyRatiosCardSaid : Prop := Claim7.holds Tryd.pinned (.plain (OpenSpec.ofChange moneyRatiosSpec)) moneyRatiosCard

/-- THE TIED CARD OF 'tollwaylaw03.MoneySplits'. -/
def moneySplitsCard : Claim7 := { stood := { row := moneySplitsRow, standIns := [], harness := (true, "19379959b048a30f9ec146a5980f45100aed2823ebc4c3b927006a608bde643a"), looks := false }, kinds := [], alts := [], laidByText := true, laidKinds := [.data, .data, .data], laidTests := true, laidLooks := .later }
def MoneySplitsCardSaid : Prop := Claim7.holds Tryd.pinned (.plain (OpenSpec.ofChange moneySplitsSpec)) moneySplitsCard

/-- THE TIED CARD OF 'tollwaylaw03.MoneyTexts'. -/
def moneyTextsCard : Claim7 := { stood := { row := moneyTextsRow, standIns := [], harness := (true, "19379959b048a30f9ec146a5980f45100aed2823ebc4c3b927006a608bde643a"), looks := false }, kinds := [], alts := [], laidByText := true, laidKinds := [.data, .data, .data], laidTests := true, laidLooks := .later }
def MoneyTextsCardSaid : Prop := Claim7.holds Tryd.pinned (.plain (OpenSpec.ofChange moneyTextsSpec)) moneyTextsCard

/-- THE SECOND FORM's CARD OF 'tollwaylaw03.MoneyRatios'. -/
def moneyRatiosUptoCard : Claim7 := { stood := { row := moneyRatiosUptoRow, standIns := [], harness := (true, "19379959b048a30f9ec146a5980f45100aed2823ebc4c3b927006a608bde643a"), looks := false }, kinds := [], alts := [], laidByText := true, laidKinds := [.data, .data, .data], laidTests := true, laidLooks := .later }
def MoneyRatiosUptoCardSaid : Prop := Claim7.holds Tryd.pinned (.plain (OpenSpec.upto moneyRatiosSpec)) moneyRatiosUptoCard

/-- THE SECOND FORM's CARD OF 'tollwaylaw03.MoneySplits'. -/
def moneySplitsUptoCard : Claim7 := { stood := { row := moneySplitsUptoRow, standIns := [], harness := (true, "19379959b048a30f9ec146a5980f45100aed2823ebc4c3b927006a608bde643a"), looks := false }, kinds := [], alts := [], laidByText := true, laidKinds := [.data, .data, .data], laidTests := true, laidLooks := .later }
def MoneySplitsUptoCardSaid : Prop := Claim7.holds Tryd.pinned (.plain (OpenSpec.upto moneySplitsSpec)) moneySplitsUptoCard

/-- THE SECOND FORM's CARD OF 'tollwaylaw03.MoneyTexts'. -/
def moneyTextsUptoCard : Claim7 := { stood := { row := moneyTextsUptoRow, standIns := [], harness := (true, "19379959b048a30f9ec146a5980f45100aed2823ebc4c3b927006a608bde643a"), looks := false }, kinds := [], alts := [], laidByText := true, laidKinds := [.data, .data, .data], laidTests := true, laidLooks := .later }
def MoneyTextsUptoCardSaid : Prop := Claim7.holds Tryd.pinned (.plain (OpenSpec.upto moneyTextsSpec)) moneyTextsUptoCard
end Rows
end Go.Proofs.YteljonodbkkckaaDoor
