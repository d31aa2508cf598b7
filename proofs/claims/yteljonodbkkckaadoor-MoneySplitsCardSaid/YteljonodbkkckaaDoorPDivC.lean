/- math/bits: Mul64 and Div64 in full. -/
import Derived.Test.YteljonodbkkckaaDoorPDivB
set_option linter.unusedVariables false
set_option linter.unusedSimpArgs false
set_option maxHeartbeats 4000000
set_option maxRecDepth 100000
namespace Go.Proofs.YteljonodbkkckaaDoor.Av
open Go Go.Proofs
theorem and_low (x : Int) (h : 0 ≤ x ∧ x ≤ 18446744073709551615) : IntKind.wrap .u64 ((BitVec.ofInt (IntKind.bits .u64) x &&& BitVec.ofInt (IntKind.bits .u64) 4294967295).toNat : Int) = x % 4294967296 := by
  obtain ⟨n, rfl⟩ := Int.eq_ofNat_of_zero_le h.1
  have e1 : (BitVec.ofInt 64 (n : Int)).toNat = n := by
    rw [BitVec.toNat_ofInt]; omega
  have e2 : (BitVec.ofInt 64 4294967295).toNat = 4294967295 := by decide
  show IntKind.wrap .u64 ((BitVec.ofInt 64 (n : Int) &&& BitVec.ofInt 64 4294967295).toNat : Int) = _
  rw [BitVec.toNat_and, e1, e2, show (4294967295 : Nat) = 2 ^ 32 - 1 by decide, Nat.and_two_pow_sub_one_eq_mod]
  rw [show IntKind.wrap .u64 ((n % 2 ^ 32 : Nat) : Int) = ((n % 2 ^ 32 : Nat) : Int) % 18446744073709551616 from rfl]
  omega
theorem mul64_eq (x y : Int) (hx : 0 ≤ x ∧ x ≤ 18446744073709551615) (hy : 0 ≤ y ∧ y ≤ 18446744073709551615) : math_bits_Mul64 x y = some (x * y / 18446744073709551616, x * y % 18446744073709551616) := by
  have hxe : x = x / 4294967296 * 4294967296 + x % 4294967296 := by omega
  have hye : y = y / 4294967296 * 4294967296 + y % 4294967296 := by omega
  unfold math_bits_Mul64
  rw [and_low x hx, and_low y hy]
  simp only [sh32, Option.bind_some]
  have ha : 0 ≤ x / 4294967296 ∧ x / 4294967296 ≤ 4294967295 := by omega
  have hb : 0 ≤ x % 4294967296 ∧ x % 4294967296 ≤ 4294967295 := by omega
  have hc : 0 ≤ y / 4294967296 ∧ y / 4294967296 ≤ 4294967295 := by omega
  have hd : 0 ≤ y % 4294967296 ∧ y % 4294967296 ≤ 4294967295 := by omega
  have hxy : x * y = (x / 4294967296) * (y / 4294967296) * 18446744073709551616 + ((x / 4294967296) * (y % 4294967296) + (x % 4294967296) * (y / 4294967296)) * 4294967296 + (x % 4294967296) * (y % 4294967296) := by
    generalize x / 4294967296 = a at *
    generalize x % 4294967296 = b at *
    generalize y / 4294967296 = c at *
    generalize y % 4294967296 = d at *
    subst hxe hye
    rw [Int.add_mul, Int.mul_add, Int.mul_add, Int.add_mul]
    have e1 : a * 4294967296 * (c * 4294967296) = a * c * 18446744073709551616 := by
      rw [Int.mul_assoc a, Int.mul_left_comm 4294967296, ← Int.mul_assoc, ← Int.mul_assoc, Int.mul_assoc (a * c)]
      rfl
    have e2 : a * 4294967296 * d = a * d * 4294967296 := by rw [Int.mul_assoc, Int.mul_comm 4294967296, ← Int.mul_assoc]
    have e3 : b * (c * 4294967296) = b * c * 4294967296 := by rw [Int.mul_assoc]
    rw [e1, e2, e3]
    omega
  have b1 := mul_bnd hb.1 hb.2 hd.1 hd.2 (by omega)
  have b2 := mul_bnd ha.1 ha.2 hd.1 hd.2 (by omega)
  have b3 := mul_bnd hb.1 hb.2 hc.1 hc.2 (by omega)
  have b4 := mul_bnd ha.1 ha.2 hc.1 hc.2 (by omega)
  rw [hxy]
  generalize (x % 4294967296) * (y % 4294967296) = p at *
  generalize (x / 4294967296) * (y % 4294967296) = q at *
  generalize (x % 4294967296) * (y / 4294967296) = r at *
  generalize (x / 4294967296) * (y / 4294967296) = t at *
  have hw := and_low (q + p / 4294967296) (by omega)
  refine guard_i (inR_u64.2 (by omega)) (guard_i (inR_u64.2 (by omega)) (guard_i (inR_u64.2 (by omega)) ?_))
  rw [hw]
  refine guard_i (inR_u64.2 (by omega)) (guard_i (inR_u64.2 (by omega)) (guard_i (inR_u64.2 (by omega)) (guard_i (inR_u64.2 (by omega)) (guard_i (inR_u64.2 (by omega)) ?_))))
  congr 1
  refine Prod.ext ?_ ?_
  · show t + (q + p / 4294967296) / 4294967296 + ((q + p / 4294967296) % 4294967296 + r) / 4294967296 = _
    omega
  · show IntKind.wrap .u64 _ = _
    rfl

theorem w64 (n : Int) : IntKind.wrap .u64 n = n % 18446744073709551616 := rfl
theorem w64' (n : Int) : IntKind.wrap .u64 n = n % 18446744073709551616 := by rw [w64]
theorem or_low (a b s : Nat) (hb : b < 2 ^ s) (h : a * 2 ^ s + b < 18446744073709551616) : IntKind.wrap .u64 ((BitVec.ofInt (IntKind.bits .u64) ((a * 2 ^ s : Nat) : Int) ||| BitVec.ofInt (IntKind.bits .u64) (b : Int)).toNat : Int) = ((a * 2 ^ s + b : Nat) : Int) := by
  have e1 : (BitVec.ofInt 64 ((a * 2 ^ s : Nat) : Int)).toNat = a * 2 ^ s := by
    generalize a * 2 ^ s = m at *
    rw [BitVec.toNat_ofInt]; omega
  have e2 : (BitVec.ofInt 64 (b : Int)).toNat = b := by
    generalize a * 2 ^ s = m at *
    rw [BitVec.toNat_ofInt]; omega
  show IntKind.wrap .u64 ((BitVec.ofInt 64 ((a * 2 ^ s : Nat) : Int) ||| BitVec.ofInt 64 (b : Int)).toNat : Int) = _
  rw [BitVec.toNat_or, e1, e2, Nat.mul_comm, ← Nat.two_pow_add_eq_or_of_lt hb, w64]
  rw [Nat.mul_comm] at h
  generalize 2 ^ s * a + b = m at *
  omega
theorem div64_zero (lo y : Int) (hl : 0 ≤ lo ∧ lo ≤ 18446744073709551615) (hy : 0 < y) : math_bits_Div64 0 lo y = some (lo / y, lo % y) := by
  unfold math_bits_Div64
  rw [if_neg (by omega), if_neg (by omega), if_pos rfl, if_pos (by omega)]
  rw [Int.tdiv_eq_ediv_of_nonneg hl.1, Int.tmod_eq_emod_of_nonneg hl.1]
  have h0 : 0 ≤ lo / y := Int.ediv_nonneg hl.1 (by omega)
  have h1 : lo / y ≤ lo := Int.ediv_le_self y hl.1
  exact guard_i (inR_u64.2 (by omega)) rfl
/-- two digits, put together -/
theorem join_digits (N y P Q rem : Int) (hP : 0 < P) (hy : 0 < y) (h : N * P = Q * (y * P) + rem) (h0 : 0 ≤ rem) (h1 : rem < y * P) : N / y = Q ∧ N % y = rem / P := by
  have e : rem = (N - y * Q) * P := by
    rw [Int.sub_mul, h, Int.mul_comm y Q, Int.mul_assoc]; omega
  have e2 : rem / P = N - y * Q := by rw [e]; exact Int.mul_ediv_cancel _ (by omega)
  have r0 : 0 ≤ N - y * Q := by
    by_cases hh : 0 ≤ N - y * Q
    · exact hh
    · have := Int.mul_le_mul_of_nonneg_right (show N - y * Q ≤ -1 by omega) (show 0 ≤ P by omega)
      omega
  have r1 : N - y * Q < y := by
    by_cases hh : N - y * Q < y
    · exact hh
    · have := Int.mul_le_mul_of_nonneg_right (show y ≤ N - y * Q by omega) (show 0 ≤ P by omega)
      omega
  rw [e2]
  exact (Int.ediv_emod_unique hy).2 ⟨by omega, r0, r1⟩
theorem div64_eq (hi lo y : Int) (hh : 0 ≤ hi ∧ hi < y) (hl : 0 ≤ lo ∧ lo ≤ 18446744073709551615) (hy : y ≤ 18446744073709551615) :
    math_bits_Div64 hi lo y = some ((hi * 18446744073709551616 + lo) / y, (hi * 18446744073709551616 + lo) % y) := by
  by_cases hz : hi = 0
  · subst hz
    rw [div64_zero lo y hl (by omega)]
    simp
  obtain ⟨n, rfl⟩ := Int.eq_ofNat_of_zero_le (show 0 ≤ y by omega)
  obtain ⟨hn, rfl⟩ := Int.eq_ofNat_of_zero_le hh.1
  obtain ⟨ln, rfl⟩ := Int.eq_ofNat_of_zero_le hl.1
  obtain ⟨s, hs, s63, t1, t2⟩ := lz64_eq n (by omega) (by omega)
  have hm : min (Int.toNat (s : Int)) (IntKind.bits .u64) = s := by
    show min (Int.toNat (s : Int)) 64 = s
    omega
  have hm2 : min (Int.toNat (64 - (s : Int))) (IntKind.bits .u64) = 64 - s := by
    show min (Int.toNat (64 - (s : Int))) 64 = 64 - s
    omega
  have hPP : 2 ^ s * 2 ^ (64 - s) = 18446744073709551616 := by rw [← Nat.pow_add, show s + (64 - s) = 64 by omega]
  have hP := Nat.two_pow_pos s
  have hP' := Nat.two_pow_pos (64 - s)
  have hcP : ((2 : Int) ^ s) = ((2 ^ s : Nat) : Int) := by simp
  have hcP' : ((2 : Int) ^ (64 - s)) = ((2 ^ (64 - s) : Nat) : Int) := by simp
  have hlt : ln / 2 ^ (64 - s) < 2 ^ s := by
    rw [Nat.div_lt_iff_lt_mul hP', hPP]; omega
  have hhi : (hn + 1) * 2 ^ s ≤ n * 2 ^ s := Nat.mul_le_mul_right _ (by omega)
  rw [Nat.add_mul, Nat.one_mul] at hhi
  have hlo : ln * 2 ^ s = ln / 2 ^ (64 - s) * 18446744073709551616 + ln * 2 ^ s % 18446744073709551616 := by
    have e : ln * 2 ^ s / 18446744073709551616 = ln / 2 ^ (64 - s) := by
      rw [← hPP, Nat.mul_comm ln]
      exact Nat.mul_div_mul_left _ _ hP
    rw [← e]
    omega
  have hor := or_low hn (ln / 2 ^ (64 - s)) s hlt (by omega)
  have eF : Int.fdiv (ln : Int) (2 ^ (64 - s)) = ((ln / 2 ^ (64 - s) : Nat) : Int) := by
    rw [Int.fdiv_eq_ediv_of_nonneg _ (by rw [hcP']; omega), hcP', Int.natCast_ediv]
  have eH : (hn : Int) * 2 ^ s = ((hn * 2 ^ s : Nat) : Int) := by rw [Int.natCast_mul, hcP]
  have eL : (ln : Int) * 2 ^ s = ((ln * 2 ^ s : Nat) : Int) := by rw [Int.natCast_mul, hcP]
  have eY : (n : Int) * 2 ^ s = ((n * 2 ^ s : Nat) : Int) := by rw [Int.natCast_mul, hcP]
  have eW : IntKind.wrap .u64 ((ln * 2 ^ s : Nat) : Int) = ((ln * 2 ^ s % 18446744073709551616 : Nat) : Int) := by
    rw [w64]
    generalize ln * 2 ^ s = m
    omega
  have lowY := and_low ((n * 2 ^ s : Nat) : Int) (by omega)
  have lowW := and_low ((ln * 2 ^ s % 18446744073709551616 : Nat) : Int) (by omega)
  have hfin : (((hn : Int) * 18446744073709551616 + (ln : Int)) * ((2 ^ s : Nat) : Int)) = ((hn * 2 ^ s + ln / 2 ^ (64 - s) : Nat) : Int) * 18446744073709551616 + ((ln * 2 ^ s % 18446744073709551616 : Nat) : Int) := by
    rw [Int.add_mul, Int.mul_right_comm, ← Int.natCast_mul, ← Int.natCast_mul]
    omega
  have hyP : (n : Int) * ((2 ^ s : Nat) : Int) = ((n * 2 ^ s : Nat) : Int) := by rw [Int.natCast_mul]
  have hltU : hn * 2 ^ s + ln / 2 ^ (64 - s) < n * 2 ^ s := by omega
  unfold math_bits_Div64
  rw [if_neg (by omega), if_neg (by omega), if_neg (by omega), hs, Option.bind_some, hm, hm2]
  rw [eF, eH, eL, eY, eW, hor, lowY]
  simp only [sh32, Option.bind_some, lowW]
  have hH : hn * 2 ^ s ≤ 18446744073709551615 := by
    have h1 : hn * 2 ^ s ≤ n * 2 ^ s := Nat.le_trans (Nat.le_add_right _ _) hhi
    generalize hn * 2 ^ s = a at h1 ⊢
    generalize n * 2 ^ s = b at h1 t2
    omega
  clear lowY lowW hor eF eH eL eY eW hlo hlt hhi
  have hV : ln * 2 ^ s % 18446744073709551616 < 18446744073709551616 := Nat.mod_lt _ (by decide)
  generalize hn * 2 ^ s + ln / 2 ^ (64 - s) = U at *
  generalize ln * 2 ^ s % 18446744073709551616 = V at *
  generalize hn * 2 ^ s = H at *
  generalize n * 2 ^ s = Y at *
  obtain ⟨d1, hd1⟩ : ∃ d1 : Int, d1 = (Y : Int) / 4294967296 := ⟨_, rfl⟩
  obtain ⟨d0, hd0⟩ : ∃ d0 : Int, d0 = (Y : Int) % 4294967296 := ⟨_, rfl⟩
  rw [← hd1, ← hd0]
  have hY : (Y : Int) = d1 * 4294967296 + d0 := by omega
  have b1 : 2147483648 ≤ d1 ∧ d1 ≤ 4294967295 := by omega
  have b0 : 0 ≤ d0 ∧ d0 ≤ 4294967295 := by omega
  have dig1 := digit_eq (step := math_bits_Div64_L28_step (n : Int) (s : Int) d1 d0 (U : Int) (V : Int) ((V : Int) % 4294967296)) (fun q r => (q, r)) d1 d0 U ((V : Int) / 4294967296) b1 b0 (by omega) (by omega)
    (fun q r h1 h2 h3 h4 => step28 _ _ d1 d0 _ V _ b1 b0 (by omega) q r h1 h2 h3 h4)
  have tU : Int.tdiv (U : Int) d1 = (U : Int) / d1 := Int.tdiv_eq_ediv_of_nonneg (by omega)
  have m0 : 0 ≤ (U : Int) / d1 := Int.ediv_nonneg (by omega) (by omega)
  have m1 : (U : Int) / d1 * d1 ≤ U := Int.ediv_mul_le _ (by omega)
  have m2 : 0 ≤ (U : Int) / d1 * d1 := Int.mul_nonneg m0 (by omega)
  have m3 : (U : Int) / d1 ≤ U := Int.ediv_le_self _ (by omega)
  rw [← hY] at dig1
  have k1 := Int.ediv_mul_le ((U : Int) * 4294967296 + (V : Int) / 4294967296) (b := (Y : Int)) (by omega)
  have k2 := Int.lt_ediv_add_one_mul_self ((U : Int) * 4294967296 + (V : Int) / 4294967296) (b := (Y : Int)) (by omega)
  have k0 : 0 ≤ ((U : Int) * 4294967296 + (V : Int) / 4294967296) / (Y : Int) := Int.ediv_nonneg (by omega) (by omega)
  rw [Int.add_mul, Int.one_mul] at k2
  generalize ((U : Int) * 4294967296 + (V : Int) / 4294967296) / (Y : Int) = q1 at *
  have k3 : q1 ≤ 4294967295 := by
    by_cases h : q1 ≤ 4294967295
    · exact h
    · have := Int.mul_le_mul_of_nonneg_right (show 4294967296 ≤ q1 by omega) (show 0 ≤ (Y : Int) by omega)
      omega
  obtain ⟨v, hv⟩ : ∃ v : Int, v = (U : Int) * 4294967296 + (V : Int) / 4294967296 - q1 * Y := ⟨_, rfl⟩
  have hv0 : 0 ≤ v ∧ v < Y := by omega
  have ev : IntKind.wrap .u64 (IntKind.wrap .u64 (IntKind.wrap .u64 ((U : Int) * 4294967296) + (V : Int) / 4294967296) - IntKind.wrap .u64 (q1 * (Y : Int))) = v := by
    simp only [w64']
    generalize q1 * (Y : Int) = t at *
    omega
  simp only [tU]
  refine guard_i (inR_u64.2 (by omega)) (guard_i (by omega) (guard_i (inR_u64.2 (by omega)) (guard_i (inR_u64.2 (by omega)) (guard_i (inR_u64.2 (by omega)) (guard_i (by omega) (guard_i (by omega) (guard_i (inR_u64.2 (by omega)) (guard_i (inR_u64.2 (by omega)) (guard_i (inR_u64.2 (by omega)) (bind_i dig1 ?_))))))))))
  simp only [ev]
  have tV : Int.tdiv v d1 = v / d1 := Int.tdiv_eq_ediv_of_nonneg (by omega)
  have p0 : 0 ≤ v / d1 := Int.ediv_nonneg (by omega) (by omega)
  have p1 : v / d1 * d1 ≤ v := Int.ediv_mul_le _ (by omega)
  have p2 : 0 ≤ v / d1 * d1 := Int.mul_nonneg p0 (by omega)
  have p3 : v / d1 ≤ v := Int.ediv_le_self _ (by omega)
  simp only [tV]
  have dig2 := fun a b c => digit_eq (step := math_bits_Div64_L64_step (n : Int) (s : Int) d1 d0 ((V : Int) % 4294967296) a b c) (fun q r => (r, q)) d1 d0 v ((V : Int) % 4294967296) b1 b0 (by omega) (by omega)
    (fun q r h1 h2 h3 h4 => step64 _ _ d1 d0 _ a b c b1 b0 (by omega) q r h1 h2 h3 h4)
  rw [← hY] at dig2
  have l1 := Int.ediv_mul_le (v * 4294967296 + (V : Int) % 4294967296) (b := (Y : Int)) (by omega)
  have l2 := Int.lt_ediv_add_one_mul_self (v * 4294967296 + (V : Int) % 4294967296) (b := (Y : Int)) (by omega)
  have l0 : 0 ≤ (v * 4294967296 + (V : Int) % 4294967296) / (Y : Int) := Int.ediv_nonneg (by omega) (by omega)
  rw [Int.add_mul, Int.one_mul] at l2
  generalize (v * 4294967296 + (V : Int) % 4294967296) / (Y : Int) = q0 at *
  have l3 : q0 ≤ 4294967295 := by
    by_cases h : q0 ≤ 4294967295
    · exact h
    · have := Int.mul_le_mul_of_nonneg_right (show 4294967296 ≤ q0 by omega) (show 0 ≤ (Y : Int) by omega)
      omega
  have er : IntKind.wrap .u64 (IntKind.wrap .u64 (IntKind.wrap .u64 (v * 4294967296) + (V : Int) % 4294967296) - IntKind.wrap .u64 (q0 * (Y : Int))) = v * 4294967296 + (V : Int) % 4294967296 - q0 * Y := by
    simp only [w64']
    generalize q0 * (Y : Int) = t at *
    omega
  refine guard_i (inR_u64.2 (by omega)) (guard_i (inR_u64.2 (by omega)) (guard_i (inR_u64.2 (by omega)) (bind_i (dig2 _ _ _) (guard_i (inR_u64.2 (by omega)) (guard_i (inR_u64.2 (by omega)) ?_)))))
  rw [er]
  have hj := join_digits ((hn : Int) * 18446744073709551616 + (ln : Int)) n ((2 ^ s : Nat) : Int) (q1 * 4294967296 + q0) (v * 4294967296 + (V : Int) % 4294967296 - q0 * Y) (by omega) (by omega) (by
    rw [hfin, hyP, Int.add_mul, Int.mul_right_comm]
    omega) (by omega) (by rw [hyP]; omega)
  rw [hj.1, hj.2, Int.fdiv_eq_ediv_of_nonneg _ (by rw [hcP]; omega), hcP]
end Go.Proofs.YteljonodbkkckaaDoor.Av
