/- math/bits.Div64: one digit of the quotient (Knuth's algorithm D). -/
import Derived.Test.YteljonodbkkckaaDoorPDivA
set_option linter.unusedVariables false
set_option linter.unusedSimpArgs false
set_option maxHeartbeats 4000000
set_option maxRecDepth 100000
namespace Go.Proofs.YteljonodbkkckaaDoor.Av
open Go Go.Proofs
theorem mul_bnd {a b m k : Int} (ha : 0 ≤ a) (ha2 : a ≤ m) (hb : 0 ≤ b) (hb2 : b ≤ k) (hm : 0 ≤ m) : 0 ≤ a * b ∧ a * b ≤ m * k :=
  ⟨Int.mul_nonneg ha hb, Int.mul_le_mul ha2 hb2 hb hm⟩
/-- q digits of two words -/
theorem qD (q d1 d0 : Int) : q * (d1 * 4294967296 + d0) = q * d1 * 4294967296 + q * d0 := by
  rw [Int.mul_add, Int.mul_assoc]
theorem digit_go {σ : Type} {step : σ → Option (σ ⊕ Int)} (mk : Int → Int → σ) (d1 d0 u u1 Q : Int)
    (hd1 : 2147483648 ≤ d1 ∧ d1 ≤ 4294967295) (hd0 : 0 ≤ d0 ∧ d0 ≤ 4294967295) (hu : 0 ≤ u ∧ u < d1 * 4294967296 + d0) (hu1 : 0 ≤ u1 ∧ u1 ≤ 4294967295)
    (hQ0 : 0 ≤ Q) (hQ1 : Q * (d1 * 4294967296 + d0) ≤ u * 4294967296 + u1) (hQ2 : u * 4294967296 + u1 < (Q + 1) * (d1 * 4294967296 + d0))
    (hs : ∀ q r, 0 ≤ q → q ≤ 4294967297 → 0 ≤ r → r ≤ 4294967295 →
      ((q ≥ 4294967296 ∨ q * d0 > 4294967296 * r + u1) → 1 ≤ q → step (mk q r) = some (if r + d1 ≥ 4294967296 then .inr (q - 1) else .inl (mk (q - 1) (r + d1)))) ∧
      (¬ (q ≥ 4294967296 ∨ q * d0 > 4294967296 * r + u1) → step (mk q r) = some (.inr q))) :
    ∀ (n : Nat) (q r : Int), q * d1 + r = u → Q ≤ q → q ≤ 4294967297 → 0 ≤ r → r ≤ 4294967295 → r + n * 2147483648 ≥ 4294967296 → lp step (mk q r) = some Q
  | 0, q, r, hqr, hQq, hq, h0, h1, hn => by omega
  | n + 1, q, r, hqr, hQq, hq, h0, h1, hn => by
    have hD : 0 < d1 * 4294967296 + d0 := by omega
    have hQlt : Q < 4294967296 := by
      by_cases h : Q < 4294967296
      · exact h
      · have h2 : 4294967296 * (d1 * 4294967296 + d0) ≤ Q * (d1 * 4294967296 + d0) := Int.mul_le_mul_of_nonneg_right (by omega) (by omega)
        omega
    obtain ⟨hT, hF⟩ := hs q r (by omega) hq h0 h1
    by_cases ht : q ≥ 4294967296 ∨ q * d0 > 4294967296 * r + u1
    · have hQ' : Q ≤ q - 1 := by
        rcases ht with ht | ht
        · omega
        · by_cases h : Q ≤ q - 1
          · exact h
          · have hqQ : Q = q := by omega
            subst hqQ
            rw [qD] at hQ1
            have e : Q * d1 = u - r := by omega
            rw [e] at hQ1
            omega
      have hstep := hT ht (by omega)
      by_cases hr : r + d1 ≥ 4294967296
      · rw [if_pos hr] at hstep
        rw [lp_end hstep]
        have hle : q - 1 ≤ Q := by
          by_cases h : q - 1 ≤ Q
          · exact h
          · have h2 : (Q + 1) * (d1 * 4294967296 + d0) ≤ (q - 1) * (d1 * 4294967296 + d0) := Int.mul_le_mul_of_nonneg_right (by omega) (by omega)
            rw [qD (q - 1)] at h2
            have e : (q - 1) * d1 = u - r - d1 := by rw [Int.sub_mul]; omega
            have b := mul_bnd (show 0 ≤ q - 1 by omega) (show q - 1 ≤ 4294967296 by omega) hd0.1 hd0.2 (by omega)
            rw [e] at h2
            omega
        congr 1; omega
      · rw [if_neg hr] at hstep
        rw [lp_go hstep]
        refine digit_go mk d1 d0 u u1 Q hd1 hd0 hu hu1 hQ0 hQ1 hQ2 hs n (q - 1) (r + d1) (by rw [Int.sub_mul]; omega) hQ' (by omega) (by omega) (by omega) (by omega)
    · rw [lp_end (hF ht)]
      have hle : q ≤ Q := by
        by_cases h : q ≤ Q
        · exact h
        · have h2 : (Q + 1) * (d1 * 4294967296 + d0) ≤ q * (d1 * 4294967296 + d0) := Int.mul_le_mul_of_nonneg_right (by omega) (by omega)
          rw [qD q] at h2
          have e : q * d1 = u - r := by omega
          rw [e] at h2
          omega
      congr 1; omega
/-- from the first guess -/
theorem digit_eq {σ : Type} {step : σ → Option (σ ⊕ Int)} (mk : Int → Int → σ) (d1 d0 u u1 : Int)
    (hd1 : 2147483648 ≤ d1 ∧ d1 ≤ 4294967295) (hd0 : 0 ≤ d0 ∧ d0 ≤ 4294967295) (hu : 0 ≤ u ∧ u < d1 * 4294967296 + d0) (hu1 : 0 ≤ u1 ∧ u1 ≤ 4294967295)
    (hs : ∀ q r, 0 ≤ q → q ≤ 4294967297 → 0 ≤ r → r ≤ 4294967295 →
      ((q ≥ 4294967296 ∨ q * d0 > 4294967296 * r + u1) → 1 ≤ q → step (mk q r) = some (if r + d1 ≥ 4294967296 then .inr (q - 1) else .inl (mk (q - 1) (r + d1)))) ∧
      (¬ (q ≥ 4294967296 ∨ q * d0 > 4294967296 * r + u1) → step (mk q r) = some (.inr q))) :
    lp step (mk (u / d1) (u - u / d1 * d1)) = some ((u * 4294967296 + u1) / (d1 * 4294967296 + d0)) := by
  have hD : 0 < d1 * 4294967296 + d0 := by omega
  have m1 : u / d1 * d1 ≤ u := Int.ediv_mul_le u (by omega)
  have m2 : u < (u / d1 + 1) * d1 := Int.lt_ediv_add_one_mul_self u (by omega)
  have m0 : 0 ≤ u / d1 := Int.ediv_nonneg hu.1 (by omega)
  rw [Int.add_mul, Int.one_mul] at m2
  have q1 := Int.ediv_mul_le (u * 4294967296 + u1) (b := d1 * 4294967296 + d0) (by omega)
  have q2 := Int.lt_ediv_add_one_mul_self (u * 4294967296 + u1) (b := d1 * 4294967296 + d0) hD
  have q0 : 0 ≤ (u * 4294967296 + u1) / (d1 * 4294967296 + d0) := Int.ediv_nonneg (by omega) (by omega)
  generalize (u * 4294967296 + u1) / (d1 * 4294967296 + d0) = Q at *
  refine digit_go mk d1 d0 u u1 Q hd1 hd0 hu hu1 q0 q1 q2 hs 2 (u / d1) (u - u / d1 * d1) (by omega) ?_ ?_ (by omega) (by omega) (by omega)
  · generalize u / d1 = q at *
    by_cases h : Q ≤ q
    · exact h
    · have h2 : (q + 1) * (d1 * 4294967296 + d0) ≤ Q * (d1 * 4294967296 + d0) := Int.mul_le_mul_of_nonneg_right (by omega) (by omega)
      rw [qD (q + 1), Int.add_mul, Int.one_mul, Int.add_mul q, Int.one_mul] at h2
      have b := Int.mul_nonneg m0 hd0.1
      omega
  · generalize u / d1 = q at *
    by_cases h : q ≤ 4294967297
    · exact h
    · have h2 : 4294967298 * d1 ≤ q * d1 := Int.mul_le_mul_of_nonneg_right (by omega) (by omega)
      omega
theorem step28 (y s d1 d0 u w z : Int) (hd1 : 2147483648 ≤ d1 ∧ d1 ≤ 4294967295) (hd0 : 0 ≤ d0 ∧ d0 ≤ 4294967295) (hw : 0 ≤ w ∧ w ≤ 18446744073709551615) (q r : Int) (hq : 0 ≤ q) (hq2 : q ≤ 4294967297) (hr : 0 ≤ r) (hr2 : r ≤ 4294967295) :
    ((q ≥ 4294967296 ∨ q * d0 > 4294967296 * r + w / 4294967296) → 1 ≤ q → math_bits_Div64_L28_step y s d1 d0 u w z (q, r) = some (if r + d1 ≥ 4294967296 then .inr (q - 1) else .inl (q - 1, r + d1))) ∧
      (¬ (q ≥ 4294967296 ∨ q * d0 > 4294967296 * r + w / 4294967296) → math_bits_Div64_L28_step y s d1 d0 u w z (q, r) = some (.inr q)) := by
  unfold math_bits_Div64_L28_step
  simp only [sh32, Option.bind_some]
  have fin : ∀ h : 1 ≤ q, (if InR .u64 (q - 1) then if InR .u64 (r + d1) then if r + d1 ≥ 4294967296 then some (Sum.inr (q - 1)) else some (Sum.inl (q - 1, r + d1)) else none else none : Option ((Int × Int) ⊕ Int)) = some (if r + d1 ≥ 4294967296 then .inr (q - 1) else .inl (q - 1, r + d1)) := fun h => by
    refine guard_i (inR_u64.2 (by omega)) (guard_i (inR_u64.2 (by omega)) ?_)
    split <;> rfl
  by_cases h : q ≥ 4294967296
  · rw [if_pos h]
    exact ⟨fun _ h1 => fin h1, fun hn => absurd (.inl h) hn⟩
  · rw [if_neg h]
    have b := mul_bnd hq (show q ≤ 4294967295 by omega) hd0.1 hd0.2 (by omega)
    generalize q * d0 = t at *
    have g1 : InR .u64 t := inR_u64.2 (by omega)
    have g2 : InR .u64 (4294967296 * r) := inR_u64.2 (by omega)
    have g3 : InR .u64 (4294967296 * r + w / 4294967296) := inR_u64.2 (by omega)
    rw [if_pos g1, if_pos g2, if_pos g3]
    refine ⟨fun ht h1 => ?_, fun hn => ?_⟩
    · exact ite_t (by omega) (fin h1)
    · exact ite_f (by omega) rfl
theorem step64 (y s d1 d0 w a b' c : Int) (hd1 : 2147483648 ≤ d1 ∧ d1 ≤ 4294967295) (hd0 : 0 ≤ d0 ∧ d0 ≤ 4294967295) (hw : 0 ≤ w ∧ w ≤ 4294967295) (q r : Int) (hq : 0 ≤ q) (hq2 : q ≤ 4294967297) (hr : 0 ≤ r) (hr2 : r ≤ 4294967295) :
    ((q ≥ 4294967296 ∨ q * d0 > 4294967296 * r + w) → 1 ≤ q → math_bits_Div64_L64_step y s d1 d0 w a b' c (r, q) = some (if r + d1 ≥ 4294967296 then .inr (q - 1) else .inl (r + d1, q - 1))) ∧
      (¬ (q ≥ 4294967296 ∨ q * d0 > 4294967296 * r + w) → math_bits_Div64_L64_step y s d1 d0 w a b' c (r, q) = some (.inr q)) := by
  unfold math_bits_Div64_L64_step
  have fin : ∀ h : 1 ≤ q, (if InR .u64 (q - 1) then if InR .u64 (r + d1) then if r + d1 ≥ 4294967296 then some (Sum.inr (q - 1)) else some (Sum.inl (r + d1, q - 1)) else none else none : Option ((Int × Int) ⊕ Int)) = some (if r + d1 ≥ 4294967296 then .inr (q - 1) else .inl (r + d1, q - 1)) := fun h => by
    refine guard_i (inR_u64.2 (by omega)) (guard_i (inR_u64.2 (by omega)) ?_)
    split <;> rfl
  dsimp only
  by_cases h : q ≥ 4294967296
  · rw [if_pos h]
    exact ⟨fun _ h1 => fin h1, fun hn => absurd (.inl h) hn⟩
  · rw [if_neg h]
    have b := mul_bnd hq (show q ≤ 4294967295 by omega) hd0.1 hd0.2 (by omega)
    generalize q * d0 = t at *
    have g1 : InR .u64 t := inR_u64.2 (by omega)
    have g2 : InR .u64 (4294967296 * r) := inR_u64.2 (by omega)
    have g3 : InR .u64 (4294967296 * r + w) := inR_u64.2 (by omega)
    rw [if_pos g1, if_pos g2, if_pos g3]
    refine ⟨fun ht h1 => ?_, fun hn => ?_⟩
    · exact ite_t (by omega) (fin h1)
    · exact ite_f (by omega) rfl
end Go.Proofs.YteljonodbkkckaaDoor.Av
