/- What each function names is what the table says. -/
import Derived.Test.YtnlaiahcemckkaaGreatDoorCKl0
import Derived.Test.YtnlaiahcemckkaaGreatDoorCKl1
import Derived.Test.YtnlaiahcemckkaaGreatDoorCKl2
set_option linter.unusedVariables false
set_option maxRecDepth 1000000
namespace Go.Proofs.YtnlaiahcemckkaaGreatDoor.Av
open Go Go.Proofs
theorem lead_size : Tryz.prog.funcs.size = 660 := by kernel_rfl
def trMax {α : Type} : Tr α → Nat
  | .e => 0
  | .n l _ r => max 1 (max (2 * trMax l) (2 * trMax r + 1))
theorem trMax_spec {α : Type} : ∀ {t : Tr α} {k : Nat}, trMax t ≤ k → t.get k = none
  | .e, k, _ => rfl
  | .n l v r, k, h => by
    simp only [trMax] at h
    have hk : k ≠ 0 := by omega
    simp only [Tr.get]
    have hb : Nat.beq k 0 = false := by
      cases hh : Nat.beq k 0
      · rfl
      · exact absurd (Nat.eq_of_beq_eq_true hh) hk
    rw [hb]
    simp only [cond_false]
    cases hh : Nat.beq (k % 2) 1 with
    | true => have := Nat.eq_of_beq_eq_true hh; exact trMax_spec (by omega)
    | false => have := Nat.ne_of_beq_eq_false hh; exact trMax_spec (by omega)
theorem tab_none (g : Nat) (h : 660 ≤ g) : leadTab.get g = none := trMax_spec (Nat.le_trans (Nat.le_of_ble_eq_true (by kernel_rfl : Nat.ble (trMax leadTab) 660 = true)) h)
theorem leads_all (g : Nat) : (Tryz.prog.funcs[g]?).elim [] Tryz.prog.leadsTo = tabGet leadTab g := by
  by_cases h0 : g < 80
  · exact eqNs_eq (allFrom_spec leads0 g (by omega) (by omega))
  by_cases h1 : g < 160
  · exact eqNs_eq (allFrom_spec leads1 g (by omega) (by omega))
  by_cases h2 : g < 240
  · exact eqNs_eq (allFrom_spec leads2 g (by omega) (by omega))
  by_cases h3 : g < 320
  · exact eqNs_eq (allFrom_spec leads3 g (by omega) (by omega))
  by_cases h4 : g < 400
  · exact eqNs_eq (allFrom_spec leads4 g (by omega) (by omega))
  by_cases h5 : g < 480
  · exact eqNs_eq (allFrom_spec leads5 g (by omega) (by omega))
  by_cases h6 : g < 560
  · exact eqNs_eq (allFrom_spec leads6 g (by omega) (by omega))
  by_cases h7 : g < 640
  · exact eqNs_eq (allFrom_spec leads7 g (by omega) (by omega))
  by_cases h8 : g < 660
  · exact eqNs_eq (allFrom_spec leads8 g (by omega) (by omega))
  rw [Array.getElem?_eq_none (by rw [lead_size]; omega)]
  have : leadTab.get g = none := tab_none g (by omega)
  unfold tabGet; rw [this]; rfl
theorem closure_tab (f : Nat) : Tryz.prog.closure f = cvT leadTab 1791 [f] [] 0 := by
  rw [clo_eq, cvT_eq leads_all, sum_tab leads_all, lead_size]
  rw [show 1 + sumT leadTab 660 = 1791 by kernel_rfl]
end Go.Proofs.YtnlaiahcemckkaaGreatDoor.Av
