/- The reference's Ratio, in closed form. -/
import Derived.Test.YteljonodbkkckaaDoorPRat
import Derived.Test.YteljonodbkkckaaDoorPDiv3
set_option linter.unusedVariables false
set_option linter.unusedSimpArgs false
set_option maxHeartbeats 4000000
set_option maxRecDepth 100000
namespace Go.Proofs.YteljonodbkkckaaDoor.Av
open Go Go.Proofs
theorem divide_eq (N M D : Int) (hN : 0 ≤ N ∧ N ≤ 1125899906842624) (hM : 0 ≤ M ∧ M ≤ 9223372036854775808) (hD : 1 ≤ D ∧ D ≤ 9223372036854775808) :
    (tollwayref03_divide N M D = some (0, 0, false) ∧ N * M / D > 1125899906842624) ∨ (tollwayref03_divide N M D = some (N * M / D, N * M % D, true) ∧ N * M / D < 4503599627370496) := by
  obtain ⟨n, rfl⟩ := Int.eq_ofNat_of_zero_le hN.1
  unfold tollwayref03_divide
  have hz : n / 2 ^ (50 + 1) = 0 := Nat.div_eq_of_lt (by have : (2 : Nat) ^ (50 + 1) = 2251799813685248 := by decide
                                                         omega)
  rcases div_loop n M D hD hM (by omega) 50 0 0 (by omega) (by rw [hz]; simp) (by omega) (by omega) with ⟨h1, h2⟩ | ⟨h1, h2⟩
  · refine .inl ⟨bind_i h1 rfl, ?_⟩
    have := Int.le_ediv_of_mul_le (show 0 < D by omega) h2
    omega
  · exact .inr ⟨bind_i h1 rfl, h2⟩
theorem rfits_eq (n : Int) : tollwayref03_Fits n = some (fit n) := by
  unfold tollwayref03_Fits fit
  by_cases h : n ≥ -1125899906842624
  · rw [if_pos h]; simp [show -1125899906842624 ≤ n from h]
  · rw [if_neg h]; simp [show ¬ -1125899906842624 ≤ n from h]
theorem rsize_eq (n : Int) (h : -9223372036854775808 ≤ n ∧ n ≤ 9223372036854775807) : tollwayref03_size n = some (absZ n) := by
  unfold tollwayref03_size absZ
  by_cases h0 : n < 0
  · rw [if_pos h0, if_pos h0, Option.bind_some, w64', w64', IntKind.wrap_i64, IntKind.wrap_i64]
    congr 1; omega
  · rw [if_neg h0, if_neg h0, w64']
    congr 1; omega
def signR (n num den Q : Int) : Option (Int × Int) :=
  if num < (0 : Int) then
    if den < (0 : Int) then
      if n < (0 : Int) then if InR .i64 Q then if InR .i64 (0 - Q) then some ((0 - Q), 0) else none else none else if InR .i64 Q then some (Q, 0) else none
    else if n < (0 : Int) then if InR .i64 Q then some (Q, 0) else none else if InR .i64 Q then if InR .i64 (0 - Q) then some ((0 - Q), 0) else none else none
  else if den < (0 : Int) then
    if n < (0 : Int) then if InR .i64 Q then some (Q, 0) else none else if InR .i64 Q then if InR .i64 (0 - Q) then some ((0 - Q), 0) else none else none
  else if n < (0 : Int) then if InR .i64 Q then if InR .i64 (0 - Q) then some ((0 - Q), 0) else none else none else if InR .i64 Q then some (Q, 0) else none
theorem fin_eq (n num den Q : Int) (h : 0 ≤ Q) : (if Q > (1125899906842624 : Int) then some ((0 : Int), (13 : Int)) else signR n num den Q) = some (if Q > 1125899906842624 then (0, 13) else (if plus n num den = true then Q else 0 - Q, 0)) := by
  by_cases hq : Q > 1125899906842624
  · rw [if_pos hq, if_pos hq]
  rw [if_neg hq, if_neg hq]
  have i1 : InR .i64 Q := inR_i64.2 (by omega)
  have i2 : InR .i64 (0 - Q) := inR_i64.2 (by omega)
  unfold signR plus
  by_cases c1 : n < 0 <;> by_cases c2 : num < 0 <;> by_cases c3 : den < 0 <;> simp [c1, c2, c3, i1, i2, show InR .i64 (-Q) by have := i2; rwa [Int.zero_sub] at this]
theorem rratio_eq (n num den mode : Int) (hn : -9223372036854775808 ≤ n ∧ n ≤ 9223372036854775807) (hu : -9223372036854775808 ≤ num ∧ num ≤ 9223372036854775807) (hd : -9223372036854775808 ≤ den ∧ den ≤ 9223372036854775807) :
    tollwayref03_Ratio n num den mode = some (ratioR n num den mode) := by
  unfold tollwayref03_Ratio ratioR
  rw [rfits_eq, Option.bind_some]
  cases hf : fit n with
  | false => rfl
  | true =>
  have hfit := fit_iff.1 hf
  rw [if_pos rfl, if_neg (show ¬ (true = false) by decide)]
  by_cases g1 : mode < 1
  · rw [if_pos g1, if_pos (by omega)]
  rw [if_neg g1]
  by_cases g2 : mode > 3
  · rw [if_pos g2, if_pos (by omega)]
  rw [if_neg g2, if_neg (show ¬ ¬ (mode = 1 ∨ mode = 2 ∨ mode = 3) by omega)]
  by_cases g3 : den = 0
  · rw [if_pos g3, if_pos g3]
  rw [if_neg g3, if_neg g3, rsize_eq den hd, rsize_eq n hn, rsize_eq num hu]
  simp only [Option.bind_some]
  have hD : 1 ≤ absZ den ∧ absZ den ≤ 9223372036854775808 := by unfold absZ; split <;> omega
  have hN : 0 ≤ absZ n ∧ absZ n ≤ 1125899906842624 := by unfold absZ; split <;> omega
  have hM : 0 ≤ absZ num ∧ absZ num ≤ 9223372036854775808 := by unfold absZ; split <;> omega
  have q0 : 0 ≤ absZ n * absZ num / absZ den := Int.ediv_nonneg (Int.mul_nonneg hN.1 hM.1) (by omega)
  have r0 : 0 ≤ absZ n * absZ num % absZ den := Int.emod_nonneg _ (by omega)
  have r1 : absZ n * absZ num % absZ den < absZ den := Int.emod_lt_of_pos _ (by omega)
  rcases divide_eq (absZ n) (absZ num) (absZ den) hN hM hD with ⟨h1, h2⟩ | ⟨h1, h2⟩
  · rw [h1, Option.bind_some]
    have hQ : rq mode (absZ n * absZ num / absZ den) (absZ n * absZ num % absZ den) (absZ den) > 1125899906842624 := by
      unfold rq
      repeat' split
      all_goals omega
    dsimp only
    rw [if_neg (by decide), if_pos hQ]
  · rw [h1, Option.bind_some]
    dsimp only
    rw [if_pos rfl]
    generalize absZ n * absZ num / absZ den = q at *
    generalize absZ n * absZ num % absZ den = r at *
    generalize absZ den = D at *
    have hm : Int.tmod q 2 = q % 2 := Int.tmod_eq_emod_of_nonneg q0
    have F1 := fin_eq n num den q q0
    have F2 := fin_eq n num den (q + 1) (by omega)
    have i1 : InR .u64 (q + 1) := inR_u64.2 (by omega)
    have i2 : InR .u64 (D - r) := inR_u64.2 (by omega)
    rw [hm]
    unfold rq
    by_cases m2 : mode = 2
    · rw [if_pos m2, if_pos m2]
      by_cases hr : r > 0
      · rw [if_pos hr, if_pos hr, if_pos i1]; exact F2
      · rw [if_neg hr, if_neg hr, if_neg (show ¬ mode = 3 by omega)]; exact F1
    rw [if_neg m2, if_neg m2]
    by_cases m3 : mode = 3
    · rw [if_pos m3, if_pos m3, if_pos i2]
      by_cases hr : r > D - r
      · rw [if_pos hr, if_pos hr, if_pos i1]; exact F2
      · rw [if_neg hr, if_neg hr]
        by_cases hr2 : r = D - r
        · rw [if_pos hr2, if_pos hr2]
          by_cases ho : q % 2 = 1
          · rw [if_pos ho, if_pos ho, if_pos i1]; exact F2
          · rw [if_neg ho, if_neg ho]; exact F1
        · rw [if_neg hr2, if_neg hr2]; exact F1
    · rw [if_neg m3, if_neg m3]; exact F1
end Go.Proofs.YteljonodbkkckaaDoor.Av
