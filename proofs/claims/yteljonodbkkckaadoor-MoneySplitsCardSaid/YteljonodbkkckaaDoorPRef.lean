/- The division of the reference, in closed form. -/
import Derived.Test.YteljonodbkkckaaDoorPRat
import Derived.Test.YteljonodbkkckaaDoorPDiv3
set_option linter.unusedVariables false
set_option linter.unusedSimpArgs false
set_option maxHeartbeats 4000000
set_option maxRecDepth 100000
namespace Go.Proofs.YteljonodbkkckaaDoor.Av
open Go Go.Proofs
theorem divide_eq (N M D : Int) (hN : 0 ≤ N ∧ N ≤ 1125899906842624) (hM : 0 ≤ M ∧ M ≤ 9223372036854775808) (hD : 1 ≤ D ∧ D ≤ 9223372036854775808) :
    (tollwayref03_divide N M D = some (0, 0, false) ∧ N * M / D > 1125899906842624) ∨ (tollwayref03_divide N M D = some (N * M / D, N * M % D, true) ∧ N * M / D < 4503599627370496) := by
  obtain ⟨n, rfl⟩ := Int.eq_ofNat_of_zero_le hN.1
  unfold tollwayref03_divide
  have hz : n / 2 ^ (50 + 1) = 0 := Nat.div_eq_of_lt (by have : (2 : Nat) ^ (50 + 1) = 2251799813685248 := by decide
                                                         omega)
  rcases div_loop n M D hD hM (by omega) 50 0 0 (by omega) (by rw [hz]; simp) (by omega) (by omega) with ⟨h1, h2⟩ | ⟨h1, h2⟩
  · refine .inl ⟨bind_i h1 rfl, ?_⟩
    have := Int.le_ediv_of_mul_le (show 0 < D by omega) h2
    omega
  · exact .inr ⟨bind_i h1 rfl, h2⟩
theorem rfits_eq (n : Int) : tollwayref03_Fits n = some (fit n) := by
  unfold tollwayref03_Fits fit
  by_cases h : n ≥ -1125899906842624
  · rw [if_pos h]; simp [show -1125899906842624 ≤ n from h]
  · rw [if_neg h]; simp [show ¬ -1125899906842624 ≤ n from h]
end Go.Proofs.YteljonodbkkckaaDoor.Av
