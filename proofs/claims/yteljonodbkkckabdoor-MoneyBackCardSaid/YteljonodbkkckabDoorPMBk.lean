/- The law MoneyBack holds. -/
import Derived.Test.YteljonodbkkckabDoorPSh2
import Derived.Test.YteljonodbkkckabDoorM2
set_option linter.unusedVariables false
set_option linter.unusedSimpArgs false
namespace Go.Proofs.YteljonodbkkckabDoor.Av
open Go Go.Proofs
theorem tollwaylaw03_MoneyBack_true (n : Int) (s : List UInt8) (hn : InR .i64 n) {p : Prop} (_ : p) : tollwaylaw03_MoneyBack n s = some true := by
  have hn : -9223372036854775808 ≤ n ∧ n ≤ 9223372036854775807 := hn
  unfold tollwaylaw03_MoneyBack
  by_cases hl : (s.length : Int) > 2000
  · rw [if_pos hl]; rfl
  have hps := parse_show n hn
  rw [if_neg hl, show_eq n hn, Option.bind_some, parse_eq _ (show_len n hn), Option.bind_some]
  have hp := parse_eq s (by omega)
  have aw : awakeF = some true := rfl
  -- what is asked of the text
  have key : (money_Parse s).bind (fun r12 => if r12.2 = (0 : Int) then (money_Show r12.1).bind fun r15 => if r15 = s then (awakeF).bind fun r18 => some r18 else some false
      else if r12.1 = (0 : Int) then if r12.2 = (5 : Int) then (awakeF).bind fun r22 => some r22 else if r12.2 = (13 : Int) then (awakeF).bind fun r25 => some r25 else some false else some false) = some true := by
    rw [hp, Option.bind_some]
    rcases parse_err s with h | h | h
    · obtain ⟨h1, h2, h3⟩ := show_parse s h
      rw [if_pos h, show_eq _ (by omega), Option.bind_some, if_pos h1]; rfl
    · rw [h]; rfl
    · rw [h]; rfl
  by_cases h1 : n ≥ -1125899906842624
  · rw [if_pos h1]
    by_cases h2 : n ≤ 1125899906842624
    · rw [if_pos ⟨h1, h2⟩] at hps
      rw [if_pos h2, hps]
      dsimp only
      rw [if_pos rfl, if_pos rfl]
      exact key
    · rw [if_neg (fun h => h2 h.2)] at hps
      rw [if_neg h2, hps]
      dsimp only
      rw [if_pos rfl, if_pos rfl]
      exact key
  · rw [if_neg (fun h => h1 h.1)] at hps
    rw [if_neg h1, hps]
    dsimp only
    rw [if_pos rfl, if_pos rfl]
    exact key
end Go.Proofs.YteljonodbkkckabDoor.Av
