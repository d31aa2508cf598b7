/- money.Ratio, in closed form. -/
import Derived.Test.YteljonodbkkckaaDoorPDivC
set_option linter.unusedVariables false
set_option linter.unusedSimpArgs false
set_option maxHeartbeats 4000000
set_option maxRecDepth 100000
namespace Go.Proofs.YteljonodbkkckaaDoor.Av
open Go Go.Proofs
def fit (n : Int) : Bool := decide (-1125899906842624 ≤ n) && decide (n ≤ 1125899906842624)
theorem fit_iff {n : Int} : fit n = true ↔ -1125899906842624 ≤ n ∧ n ≤ 1125899906842624 := by simp [fit]
theorem fits_eq (n : Int) : money_Fits n = some (fit n) := by
  unfold money_Fits fit
  by_cases h : n ≥ -1125899906842624
  · rw [if_pos h]; simp [show -1125899906842624 ≤ n from h]
  · rw [if_neg h]; simp [show ¬ -1125899906842624 ≤ n from h]
/-- the size of a number -/
def absZ (n : Int) : Int := if n < 0 then 0 - n else n
theorem size_eq (n : Int) (h : -9223372036854775808 ≤ n ∧ n ≤ 9223372036854775807) : money_size n = some (absZ n) := by
  unfold money_size absZ
  by_cases h0 : n < 0
  · rw [if_pos h0, if_pos h0, w64', w64']
    congr 1; omega
  · rw [if_neg h0, if_neg h0, w64']
    congr 1; omega
theorem absZ_nn (n : Int) : 0 ≤ absZ n := by unfold absZ; split <;> omega
theorem absZ_neg (n : Int) : absZ (0 - n) = absZ n := by unfold absZ; split <;> split <;> omega
/-- the rounded quotient of two sizes -/
def rq (mode q r D : Int) : Int := if mode = 2 then (if r > 0 then q + 1 else q) else if mode = 3 then (if r > D - r then q + 1 else if r = D - r then (if q % 2 = 1 then q + 1 else q) else q) else q
/-- do the three signs make a plus -/
def plus (n num den : Int) : Bool := decide (n < 0) == (!((decide (num < 0)) == (decide (den < 0))))
def ratioR (n num den mode : Int) : Int × Int :=
  if fit n = false then (0, 13) else if ¬ (mode = 1 ∨ mode = 2 ∨ mode = 3) then (0, 1) else if den = 0 then (0, 14) else
    let Q := rq mode (absZ n * absZ num / absZ den) (absZ n * absZ num % absZ den) (absZ den)
    if Q > 1125899906842624 then (0, 13) else (if plus n num den = true then Q else 0 - Q, 0)
theorem sgn_eq (n num den Q : Int) (h : 0 ≤ Q ∧ Q ≤ 1125899906842624) :
    (if (decide (n < (0 : Int))) = (!((decide (num < (0 : Int))) == (decide (den < (0 : Int))))) then if InR .i64 Q then some (Q, (0 : Int)) else none else if InR .i64 Q then if InR .i64 (0 - Q) then some ((0 - Q), 0) else none else none) = some (if plus n num den = true then Q else 0 - Q, 0) := by
  unfold plus
  by_cases hc : (decide (n < (0 : Int))) = (!((decide (num < (0 : Int))) == (decide (den < (0 : Int)))))
  · rw [if_pos hc, if_pos (inR_i64.2 (by omega)), if_pos (by rw [hc]; simp)]
  · rw [if_neg hc, if_pos (inR_i64.2 (by omega)), if_pos (inR_i64.2 (by omega)), if_neg (by simpa using hc)]
theorem ratio_eq (n num den mode : Int) (hn : -9223372036854775808 ≤ n ∧ n ≤ 9223372036854775807) (hu : -9223372036854775808 ≤ num ∧ num ≤ 9223372036854775807) (hd : -9223372036854775808 ≤ den ∧ den ≤ 9223372036854775807) :
    money_Ratio n num den mode = some (ratioR n num den mode) := by
  unfold money_Ratio ratioR
  rw [fits_eq, Option.bind_some]
  cases hf : fit n with
  | false => rfl
  | true =>
  have hfit := fit_iff.1 hf
  rw [if_pos rfl, if_neg (show ¬ (true = false) by decide)]
  by_cases hd0 : den = 0
  · by_cases h1 : mode = 1
    · rw [if_pos h1, if_pos hd0, if_neg (by omega), if_pos hd0]
    · rw [if_neg h1]
      by_cases h2 : mode = 2
      · rw [if_pos h2, if_pos hd0, if_neg (by omega), if_pos hd0]
      · rw [if_neg h2]
        by_cases h3 : mode = 3
        · rw [if_pos h3, if_pos hd0, if_neg (by omega), if_pos hd0]
        · rw [if_neg h3, if_pos (by omega)]
  have hD : 0 < absZ den ∧ absZ den ≤ 9223372036854775808 := by unfold absZ; split <;> omega
  have hN : 0 ≤ absZ n ∧ absZ n ≤ 1125899906842624 := by unfold absZ; split <;> omega
  have hM : 0 ≤ absZ num ∧ absZ num ≤ 9223372036854775808 := by unfold absZ; split <;> omega
  rw [size_eq den hd, size_eq n hn, size_eq num hu]
  simp only [Option.bind_some, mul64_eq (absZ n) (absZ num) (by omega) (by omega), if_neg hd0]
  have hA := mul_bnd hN.1 hN.2 hM.1 hM.2 (by omega)
  generalize absZ n * absZ num = A at *
  generalize absZ den = D at *
  have q0 : 0 ≤ A / D := Int.ediv_nonneg hA.1 (by omega)
  have r0 : 0 ≤ A % D := Int.emod_nonneg _ (by omega)
  have r1 : A % D < D := Int.emod_lt_of_pos _ hD.1
  have hq1 := Int.lt_ediv_add_one_mul_self A hD.1
  by_cases hbig : A / 18446744073709551616 ≥ D
  · have hq : A / D > 1125899906842624 := by
      by_cases h : A / D > 1125899906842624
      · exact h
      · have h2 := Int.mul_le_mul_of_nonneg_right (show A / D + 1 ≤ 1125899906842625 by omega) (show 0 ≤ D by omega)
        omega
    have hQ : rq mode (A / D) (A % D) D > 1125899906842624 := by
      unfold rq
      repeat' split
      all_goals omega
    simp only [if_pos hbig, if_pos hQ]
    by_cases h1 : mode = 1
    · rw [if_pos h1, if_neg (by omega)]
    · rw [if_neg h1]
      by_cases h2 : mode = 2
      · rw [if_pos h2, if_neg (by omega)]
      · rw [if_neg h2]
        by_cases h3 : mode = 3
        · rw [if_pos h3, if_neg (by omega)]
        · rw [if_neg h3, if_pos (by omega)]
  have hdiv := div64_eq (A / 18446744073709551616) (A % 18446744073709551616) D (by omega) (by omega) (by omega)
  rw [show A / 18446744073709551616 * 18446744073709551616 + A % 18446744073709551616 = A by omega] at hdiv
  simp only [if_neg hbig, hdiv, Option.bind_some]
  clear hdiv hq1 hbig
  generalize A / D = q at *
  generalize A % D = r at *
  by_cases h1 : mode = 1
  · subst h1
    rw [if_pos rfl, if_neg (show ¬ ¬ ((1 : Int) = 1 ∨ (1 : Int) = 2 ∨ (1 : Int) = 3) by decide)]
    have e : rq 1 q r D = q := rfl
    rw [e]
    by_cases hq : q > 1125899906842624
    · rw [if_pos hq, if_pos hq]
    · rw [if_neg hq, if_neg hq, if_neg (show ¬ ((1 : Int) = 2) by decide), if_neg (show ¬ ((1 : Int) = 3) by decide)]
      exact sgn_eq n num den q (by omega)
  rw [if_neg h1]
  by_cases h2 : mode = 2
  · subst h2
    rw [if_pos rfl, if_neg (show ¬ ¬ ((2 : Int) = 1 ∨ (2 : Int) = 2 ∨ (2 : Int) = 3) by decide)]
    have e : rq 2 q r D = if r > 0 then q + 1 else q := rfl
    rw [e]
    by_cases hq : q > 1125899906842624
    · rw [if_pos hq]
      by_cases hr : r > 0
      · rw [if_pos hr, if_pos (by omega)]
      · rw [if_neg hr, if_pos (by omega)]
    · rw [if_neg hq]
      by_cases hr : r > 0
      · rw [if_pos hr, if_pos hr, if_pos (inR_u64.2 (by omega))]
        by_cases hq' : q + 1 > 1125899906842624
        · rw [if_pos hq', if_pos hq']
        · rw [if_neg hq', if_neg hq']
          exact sgn_eq n num den (q + 1) (by omega)
      · rw [if_neg hr, if_neg hr, if_neg hq]
        exact sgn_eq n num den q (by omega)
  rw [if_neg h2]
  by_cases h3 : mode = 3
  · subst h3
    rw [if_pos rfl, if_neg (show ¬ ¬ ((3 : Int) = 1 ∨ (3 : Int) = 2 ∨ (3 : Int) = 3) by decide)]
    have e : rq 3 q r D = if r > D - r then q + 1 else if r = D - r then (if q % 2 = 1 then q + 1 else q) else q := rfl
    have hm : Int.tmod q 2 = q % 2 := Int.tmod_eq_emod_of_nonneg q0
    rw [e, hm]
    by_cases hq : q > 1125899906842624
    · rw [if_pos hq, if_pos (by repeat' split
                                all_goals omega)]
    · rw [if_neg hq, if_pos (inR_u64.2 (by omega))]
      by_cases hr : r > D - r
      · rw [if_pos hr, if_pos hr, if_pos (inR_u64.2 (by omega))]
        by_cases hq' : q + 1 > 1125899906842624
        · rw [if_pos hq', if_pos hq']
        · rw [if_neg hq', if_neg hq']
          exact sgn_eq n num den (q + 1) (by omega)
      · rw [if_neg hr, if_neg hr]
        by_cases hr2 : r = D - r
        · rw [if_pos hr2, if_pos hr2]
          by_cases ho : q % 2 = 1
          · rw [if_pos ho, if_pos ho, if_pos (inR_u64.2 (by omega))]
            by_cases hq' : q + 1 > 1125899906842624
            · rw [if_pos hq', if_pos hq']
            · rw [if_neg hq', if_neg hq']
              exact sgn_eq n num den (q + 1) (by omega)
          · rw [if_neg ho, if_neg ho, if_neg hq]
            exact sgn_eq n num den q (by omega)
        · rw [if_neg hr2, if_neg hr2, if_neg hq]
          exact sgn_eq n num den q (by omega)
  · rw [if_neg h3, if_pos (by omega)]
end Go.Proofs.YteljonodbkkckaaDoor.Av
