/- The reference's division, bit by bit. -/
import Derived.Test.YteljonodbkkckaaDoorE1
import Derived.Test.YteljonodbkkckaaDoorAvPl
set_option linter.unusedVariables false
set_option linter.unusedSimpArgs false
set_option maxHeartbeats 4000000
set_option maxRecDepth 100000
namespace Go.Proofs.YteljonodbkkckaaDoor.Av
open Go Go.Proofs
theorem div_step (N M D b q r p : Int) (hD : 1 ≤ D ∧ D ≤ 9223372036854775808) (hM : 0 ≤ M ∧ M ≤ 9223372036854775808) (hb : 1 ≤ b ∧ b ≤ 1125899906842624) (hp : Int.tdiv N b = p) (hp0 : 0 ≤ p ∧ p ≤ 9223372036854775807)
    (hi : q * D + r = p / 2 * M) (hr : 0 ≤ r ∧ r < D) (hq : 0 ≤ q ∧ q < 4503599627370496) :
    ∃ q' r' : Int, q' * D + r' = p * M ∧ 0 ≤ r' ∧ r' < D ∧ 0 ≤ q' ∧ tollwayref03_divide_L1_step N M D (q, r, b) = some (if q' ≥ 4503599627370496 then .inr (.inl ()) else .inl (q', r', Int.tdiv b 2)) := by
  have t1 : Int.tdiv (r * 2) D = r * 2 / D := Int.tdiv_eq_ediv_of_nonneg (by omega)
  have t2 : Int.tmod (r * 2) D = r * 2 % D := Int.tmod_eq_emod_of_nonneg (by omega)
  have t3 : Int.tdiv M D = M / D := Int.tdiv_eq_ediv_of_nonneg (by omega)
  have t4 : Int.tmod M D = M % D := Int.tmod_eq_emod_of_nonneg (by omega)
  have t5 : Int.tmod p 2 = p % 2 := Int.tmod_eq_emod_of_nonneg (by omega)
  have t6 : Int.tdiv b 2 = b / 2 := Int.tdiv_eq_ediv_of_nonneg (by omega)
  have a1 : r * 2 / D * D + r * 2 % D = r * 2 := by rw [Int.mul_comm]; exact Int.mul_ediv_add_emod _ _
  have a2 : 0 ≤ r * 2 % D := Int.emod_nonneg _ (by omega)
  have a3 : r * 2 % D < D := Int.emod_lt_of_pos _ (by omega)
  have a4 : 0 ≤ r * 2 / D := Int.ediv_nonneg (by omega) (by omega)
  have a5 : r * 2 / D < 2 := Int.ediv_lt_of_lt_mul (by omega) (by omega)
  have m1 : M / D * D + M % D = M := by rw [Int.mul_comm]; exact Int.mul_ediv_add_emod _ _
  have m2 : 0 ≤ M % D := Int.emod_nonneg _ (by omega)
  have m3 : M % D < D := Int.emod_lt_of_pos _ (by omega)
  have m4 : 0 ≤ M / D := Int.ediv_nonneg (by omega) (by omega)
  have m5 : M / D ≤ M := Int.ediv_le_self _ hM.1
  unfold tollwayref03_divide_L1_step
  dsimp only
  rw [t1, t2, t3, t4, hp, t5, t6]
  generalize r * 2 / D = x1 at *
  generalize r * 2 % D = x0 at *
  generalize M / D = y1 at *
  generalize M % D = y0 at *
  have t7 : Int.tdiv (x0 + y0) D = (x0 + y0) / D := Int.tdiv_eq_ediv_of_nonneg (by omega)
  have t8 : Int.tmod (x0 + y0) D = (x0 + y0) % D := Int.tmod_eq_emod_of_nonneg (by omega)
  have c1 : (x0 + y0) / D * D + (x0 + y0) % D = x0 + y0 := by rw [Int.mul_comm]; exact Int.mul_ediv_add_emod _ _
  have c2 : 0 ≤ (x0 + y0) % D := Int.emod_nonneg _ (by omega)
  have c3 : (x0 + y0) % D < D := Int.emod_lt_of_pos _ (by omega)
  have c4 : 0 ≤ (x0 + y0) / D := Int.ediv_nonneg (by omega) (by omega)
  have c5 : (x0 + y0) / D < 2 := Int.ediv_lt_of_lt_mul (by omega) (by omega)
  rw [t7, t8]
  generalize (x0 + y0) / D = z1 at *
  generalize (x0 + y0) % D = z0 at *
  by_cases hbit : p % 2 = 1
  · refine ⟨2 * q + x1 + y1 + z1, z0, ?_, c2, c3, by omega, ?_⟩
    · have hpm : p * M = p / 2 * M + p / 2 * M + M := by
        have : p = p / 2 + p / 2 + 1 := by omega
        conv => lhs; rw [this, Int.add_mul, Int.add_mul, Int.one_mul]
      rw [hpm, ← hi, Int.add_mul, Int.add_mul, Int.add_mul, Int.mul_assoc 2]
      omega
    · refine ite_t (by omega) (guard_i (inR_u64.2 (by omega)) (guard_i (inR_u64.2 (by omega)) (guard_i (by omega) (guard_i (inR_u64.2 (by omega)) (guard_i (inR_u64.2 (by omega)) (guard_i (by omega) (guard_i (inR_u64.2 (by omega)) (ite_t hbit ?_))))))))
      refine guard_i (inR_u64.2 (by omega)) (guard_i (inR_u64.2 (by omega)) (guard_i (inR_u64.2 (by omega)) (guard_i (inR_u64.2 (by omega)) (guard_i (inR_u64.2 (by omega)) (bind_i rfl ?_)))))
      by_cases hx : 2 * q + x1 + y1 + z1 ≥ 4503599627370496
      · rw [if_pos hx, if_pos hx]
      · rw [if_neg hx, if_neg hx]
        exact guard_i (inR_u64.2 (by omega)) rfl
  · refine ⟨2 * q + x1, x0, ?_, a2, a3, by omega, ?_⟩
    · have hpm : p * M = p / 2 * M + p / 2 * M := by
        have : p = p / 2 + p / 2 := by omega
        conv => lhs; rw [this, Int.add_mul]
      rw [hpm, ← hi, Int.add_mul, Int.mul_assoc 2]
      omega
    · refine ite_t (by omega) (guard_i (inR_u64.2 (by omega)) (guard_i (inR_u64.2 (by omega)) (guard_i (by omega) (guard_i (inR_u64.2 (by omega)) (guard_i (inR_u64.2 (by omega)) (guard_i (by omega) (guard_i (inR_u64.2 (by omega)) (ite_f hbit ?_))))))))
      by_cases hx : 2 * q + x1 ≥ 4503599627370496
      · rw [if_pos hx, if_pos hx]
      · rw [if_neg hx, if_neg hx]
        exact guard_i (inR_u64.2 (by omega)) rfl
theorem div_loop (N : Nat) (M D : Int) (hD : 1 ≤ D ∧ D ≤ 9223372036854775808) (hM : 0 ≤ M ∧ M ≤ 9223372036854775808) (hN : N ≤ 1125899906842624) :
    ∀ (j : Nat) (q r : Int), j ≤ 50 → q * D + r = ((N / 2 ^ (j + 1) : Nat) : Int) * M → 0 ≤ r ∧ r < D → 0 ≤ q ∧ q < 4503599627370496 →
      (lp (tollwayref03_divide_L1_step (N : Int) M D) (q, r, ((2 ^ j : Nat) : Int)) = some (.inl ()) ∧ 4503599627370496 * D ≤ (N : Int) * M) ∨
      (lp (tollwayref03_divide_L1_step (N : Int) M D) (q, r, ((2 ^ j : Nat) : Int)) = some (.inr ((N : Int) * M / D, (N : Int) * M % D)) ∧ (N : Int) * M / D < 4503599627370496) := fun j => by
  induction j with
  | zero =>
    intro q r hj hi hr hq
    have hp : Int.tdiv (N : Int) ((2 ^ 0 : Nat) : Int) = (N : Int) := by simp
    have hi' : q * D + r = (N : Int) / 2 * M := by
      rw [hi]; congr 1
    obtain ⟨q', r', e1, e2, e3, e4, e5⟩ := div_step N M D ((2 ^ 0 : Nat) : Int) q r N hD hM (by decide) hp (by omega) hi' hr hq
    by_cases hx : q' ≥ 4503599627370496
    · rw [if_pos hx] at e5
      refine .inl ⟨lp_end e5, ?_⟩
      have := Int.mul_le_mul_of_nonneg_right hx (show 0 ≤ D by omega)
      omega
    · rw [if_neg hx] at e5
      obtain ⟨k1, k2⟩ := (Int.ediv_emod_unique (a := (N : Int) * M) (q := q') (r := r') (show 0 < D by omega)).2 ⟨by rw [Int.mul_comm]; omega, e2, e3⟩
      refine .inr ⟨?_, by omega⟩
      rw [lp_go e5, k1, k2]
      refine lp_end ?_
      unfold tollwayref03_divide_L1_step
      exact ite_f (by decide) rfl
  | succ j ih =>
    intro q r hj hi hr hq
    have hpos := Nat.two_pow_pos (j + 1)
    have hle : 2 ^ (j + 1) ≤ 2 ^ 50 := Nat.pow_le_pow_right (by decide) hj
    have hp : Int.tdiv (N : Int) ((2 ^ (j + 1) : Nat) : Int) = ((N / 2 ^ (j + 1) : Nat) : Int) := by
      rw [Int.tdiv_eq_ediv_of_nonneg (by omega), Int.natCast_ediv]
    have hpl : N / 2 ^ (j + 1) ≤ N := Nat.div_le_self _ _
    have hi' : q * D + r = ((N / 2 ^ (j + 1) : Nat) : Int) / 2 * M := by
      rw [hi]; congr 1
      rw [Nat.pow_succ 2 (j + 1), ← Nat.div_div_eq_div_mul]
      rfl
    have hb : (1 : Int) ≤ ((2 ^ (j + 1) : Nat) : Int) ∧ ((2 ^ (j + 1) : Nat) : Int) ≤ 1125899906842624 := by
      constructor
      · omega
      · have : (2 : Nat) ^ 50 = 1125899906842624 := by decide
        omega
    have h2 : Int.tdiv ((2 ^ (j + 1) : Nat) : Int) 2 = ((2 ^ j : Nat) : Int) := by
      rw [Int.tdiv_eq_ediv_of_nonneg (by omega), Nat.pow_succ]
      omega
    have hNM : ((N / 2 ^ (j + 1) : Nat) : Int) * M ≤ (N : Int) * M := Int.mul_le_mul_of_nonneg_right (Int.ofNat_le.2 hpl) hM.1
    obtain ⟨q', r', e1, e2, e3, e4, e5⟩ := div_step N M D ((2 ^ (j + 1) : Nat) : Int) q r _ hD hM hb hp (by generalize N / 2 ^ (j + 1) = w at hpl ⊢; omega) hi' hr hq
    by_cases hx : q' ≥ 4503599627370496
    · rw [if_pos hx] at e5
      refine .inl ⟨lp_end e5, ?_⟩
      have := Int.mul_le_mul_of_nonneg_right hx (show 0 ≤ D by omega)
      omega
    · rw [if_neg hx, h2] at e5
      rw [lp_go e5]
      exact ih q' r' (by omega) e1 ⟨e2, e3⟩ ⟨e4, by omega⟩
end Go.Proofs.YteljonodbkkckaaDoor.Av
