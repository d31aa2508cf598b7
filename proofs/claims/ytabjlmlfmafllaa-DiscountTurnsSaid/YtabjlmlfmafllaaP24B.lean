/- Discounts: Check and Amount answer alike. -/
import Derived.Test.YtabjlmlfmafllaaP24A
set_option linter.unusedVariables false
set_option linter.unusedSimpArgs false
set_option maxHeartbeats 4000000
namespace Go.Proofs.Ytabjlmlfmafllaa.Av
open Go Go.Proofs
theorem amounts_eq (d : Tapi_Discount) (hk : 1 ≤ d.Kind) (X Y : Option Int) : ((tollwayref24_amounts d).bind fun r => if r = true then X else Y) = if d.Amount < 0 then Y else (discount_most d.Kind).bind fun r => if d.Amount > r then Y else X := by
  unfold tollwayref24_amounts discount_most
  by_cases h1 : d.Kind = 1
  · simp only [if_pos h1, Option.bind_some]
    by_cases h2 : d.Amount ≥ 0
    · rw [if_pos h2, if_neg (show ¬ d.Amount < 0 by omega)]
      by_cases h3 : d.Amount ≤ 1000
      · simp [h3, show ¬ d.Amount > 1000 by omega]
      · simp [h3, show d.Amount > 1000 by omega]
    · rw [if_neg h2, if_pos (show d.Amount < 0 by omega)]; rfl
  · simp only [if_neg h1]
    by_cases h4 : d.Kind = 2
    · simp only [if_pos h4, Option.bind_some]
      by_cases h2 : d.Amount ≥ 0
      · rw [if_pos h2, if_neg (show ¬ d.Amount < 0 by omega)]
        by_cases h3 : d.Amount ≤ 1125899906842624
        · simp [h3, show ¬ d.Amount > 1125899906842624 by omega]
        · simp [h3, show d.Amount > 1125899906842624 by omega]
      · rw [if_neg h2, if_pos (show d.Amount < 0 by omega)]; rfl
    · simp only [if_neg h4, Option.bind_some]
      by_cases h2 : d.Amount < 0
      · rw [if_pos h2, if_neg (by simp; omega)]
      · rw [if_neg h2]
        by_cases h3 : d.Amount = 0
        · rw [if_pos (by simp [h3]), if_neg (by omega)]
        · rw [if_neg (by simp [h3]), if_pos (by omega)]
theorem window_eq (w : Tapi_Window) (X Y : Option Int) : (if w.Days = 0 then if w.From = 0 then if w.To = 0 then X else Y else Y else (tollwayref04_ValidWindow w).bind fun r => if r = true then X else Y) = (discount_window w).bind fun r => if r = true then X else Y := by
  unfold discount_window tollwayref04_ValidWindow
  by_cases h0 : w.Days = 0
  · simp only [if_pos h0]
    by_cases h1 : w.From = 0
    · simp only [if_pos h1, Option.bind_some]
      by_cases h2 : w.To = 0
      · simp [h2]
      · simp [h2]
    · simp [if_neg h1]
  · simp only [if_neg h0]
    by_cases h1 : w.Days > 0
    · rw [if_pos (show w.Days ≥ 1 by omega), if_pos h1]
    · rw [if_neg (show ¬ w.Days ≥ 1 by omega), if_neg h1]
theorem window_tot (w : Tapi_Window) : ∃ b, discount_window w = some b := by
  unfold discount_window
  repeat' split
  all_goals exact ⟨_, rfl⟩
theorem named_eq (s : List UInt8) (X Y : Option Int) : ((tollwayref24_named s).bind fun r => if r = true then X else Y) = if s = [] then X else (text_Name s).bind fun r => if r = true then X else Y := by
  unfold tollwayref24_named
  by_cases h : s = []
  · rw [if_pos h, if_pos h]; rfl
  · obtain ⟨b, h1, h2⟩ := name_both s
    rw [if_neg h, if_neg h, h1, h2]
    rfl
theorem check_eq (d : Tapi_Discount) : tollwayref24_Check d = discount_Check d := by
  unfold tollwayref24_Check discount_Check
  obtain ⟨b1, h1, h2⟩ := name_both d.Name
  rw [h1, h2, Option.bind_some, Option.bind_some]
  cases b1 with
  | false => rfl
  | true =>
    rw [if_pos rfl, if_pos rfl]
    by_cases hk1 : d.Kind < 1
    · rw [if_pos hk1, if_pos hk1]
    rw [if_neg hk1, if_neg hk1]
    by_cases hk2 : d.Kind > 3
    · rw [if_pos hk2, if_pos hk2]
    rw [if_neg hk2, if_neg hk2, amounts_eq d (by omega)]
    simp only [named_eq, window_eq]
theorem check_tot (d : Tapi_Discount) : ∃ c, discount_Check d = some c ∧ (c = 0 → (1 ≤ d.Kind ∧ d.Kind ≤ 3 ∧ 0 ≤ d.Amount) ∧ (d.Kind = 1 → d.Amount ≤ 1000) ∧ (d.Kind = 2 → d.Amount ≤ 1125899906842624)) := by
  unfold discount_Check
  obtain ⟨b1, h1, _⟩ := name_both d.Name
  obtain ⟨b2, h2, _⟩ := name_both d.Group
  obtain ⟨b3, h3, _⟩ := name_both d.System
  obtain ⟨b4, h4⟩ := window_tot d.Window
  simp only [h1, h2, h3, h4, Option.bind_some]
  have hm : discount_most d.Kind = some (if d.Kind = 1 then 1000 else if d.Kind = 2 then 1125899906842624 else 0) := by
    unfold discount_most
    repeat' split
    all_goals rfl
  simp only [hm, Option.bind_some]
  by_cases g1 : b1 = true
  case neg => rw [if_neg g1]; exact ⟨6, rfl, by omega⟩
  rw [if_pos g1]
  by_cases g2 : d.Kind < 1
  case pos => rw [if_pos g2]; exact ⟨1, rfl, by omega⟩
  rw [if_neg g2]
  by_cases g3 : d.Kind > 3
  case pos => rw [if_pos g3]; exact ⟨1, rfl, by omega⟩
  rw [if_neg g3]
  by_cases g4 : d.Amount < 0
  case pos => rw [if_pos g4]; exact ⟨1, rfl, by omega⟩
  rw [if_neg g4]
  by_cases g5 : d.Amount > (if d.Kind = 1 then 1000 else if d.Kind = 2 then 1125899906842624 else 0)
  case pos => rw [if_pos g5]; exact ⟨1, rfl, by omega⟩
  rw [if_neg g5]
  have hfin : (1 ≤ d.Kind ∧ d.Kind ≤ 3 ∧ 0 ≤ d.Amount) ∧ (d.Kind = 1 → d.Amount ≤ 1000) ∧ (d.Kind = 2 → d.Amount ≤ 1125899906842624) := by
    refine ⟨by omega, fun h => ?_, fun h => ?_⟩
    · rw [if_pos h] at g5; omega
    · rw [if_neg (by omega), if_pos h] at g5; omega
  repeat' split
  all_goals exact ⟨_, rfl, fun _ => hfin⟩
/-! ### products -/
theorem and_low (x : Int) (h : 0 ≤ x ∧ x ≤ 18446744073709551615) : IntKind.wrap .u64 ((BitVec.ofInt (IntKind.bits .u64) x &&& BitVec.ofInt (IntKind.bits .u64) 4294967295).toNat : Int) = x % 4294967296 := by
  obtain ⟨n, rfl⟩ := Int.eq_ofNat_of_zero_le h.1
  have e1 : (BitVec.ofInt 64 (n : Int)).toNat = n := by
    rw [BitVec.toNat_ofInt]; omega
  have e2 : (BitVec.ofInt 64 4294967295).toNat = 4294967295 := by decide
  show IntKind.wrap .u64 ((BitVec.ofInt 64 (n : Int) &&& BitVec.ofInt 64 4294967295).toNat : Int) = _
  rw [BitVec.toNat_and, e1, e2, show (4294967295 : Nat) = 2 ^ 32 - 1 by decide, Nat.and_two_pow_sub_one_eq_mod]
  rw [show IntKind.wrap .u64 ((n % 2 ^ 32 : Nat) : Int) = ((n % 2 ^ 32 : Nat) : Int) % 18446744073709551616 from rfl]
  omega
theorem sh32 (x : Int) : Int.fdiv x (2 ^ (min (Int.toNat 32) (IntKind.bits .u64))) = x / 4294967296 := by
  show Int.fdiv x (2 ^ 32) = _
  rw [Int.fdiv_eq_ediv_of_nonneg _ (by omega)]
  rfl
theorem mul_bnd {a b m : Int} (ha : 0 ≤ a) (ha2 : a ≤ m) (hb : 0 ≤ b) (hb2 : b ≤ m) : 0 ≤ a * b ∧ a * b ≤ m * m :=
  ⟨Int.mul_nonneg ha hb, Int.mul_le_mul ha2 hb2 hb (by omega)⟩
theorem mul64_eq (x y : Int) (hx : 0 ≤ x ∧ x ≤ 18446744073709551615) (hy : 0 ≤ y ∧ y ≤ 18446744073709551615) : math_bits_Mul64 x y = some (x * y / 18446744073709551616, x * y % 18446744073709551616) := by
  have hxe : x = x / 4294967296 * 4294967296 + x % 4294967296 := by omega
  have hye : y = y / 4294967296 * 4294967296 + y % 4294967296 := by omega
  unfold math_bits_Mul64
  rw [and_low x hx, and_low y hy]
  simp only [sh32, Option.bind_some]
  have ha : 0 ≤ x / 4294967296 ∧ x / 4294967296 ≤ 4294967295 := by omega
  have hb : 0 ≤ x % 4294967296 ∧ x % 4294967296 ≤ 4294967295 := by omega
  have hc : 0 ≤ y / 4294967296 ∧ y / 4294967296 ≤ 4294967295 := by omega
  have hd : 0 ≤ y % 4294967296 ∧ y % 4294967296 ≤ 4294967295 := by omega
  have hxy : x * y = (x / 4294967296) * (y / 4294967296) * 18446744073709551616 + ((x / 4294967296) * (y % 4294967296) + (x % 4294967296) * (y / 4294967296)) * 4294967296 + (x % 4294967296) * (y % 4294967296) := by
    generalize x / 4294967296 = a at *
    generalize x % 4294967296 = b at *
    generalize y / 4294967296 = c at *
    generalize y % 4294967296 = d at *
    subst hxe hye
    rw [Int.add_mul, Int.mul_add, Int.mul_add, Int.add_mul]
    have e1 : a * 4294967296 * (c * 4294967296) = a * c * 18446744073709551616 := by
      rw [Int.mul_assoc a, Int.mul_left_comm 4294967296, ← Int.mul_assoc, ← Int.mul_assoc, Int.mul_assoc (a * c)]
      rfl
    have e2 : a * 4294967296 * d = a * d * 4294967296 := by rw [Int.mul_assoc, Int.mul_comm 4294967296, ← Int.mul_assoc]
    have e3 : b * (c * 4294967296) = b * c * 4294967296 := by rw [Int.mul_assoc]
    rw [e1, e2, e3]
    omega
  have b1 := mul_bnd hb.1 hb.2 hd.1 hd.2
  have b2 := mul_bnd ha.1 ha.2 hd.1 hd.2
  have b3 := mul_bnd hb.1 hb.2 hc.1 hc.2
  have b4 := mul_bnd ha.1 ha.2 hc.1 hc.2
  rw [hxy]
  generalize (x % 4294967296) * (y % 4294967296) = p at *
  generalize (x / 4294967296) * (y % 4294967296) = q at *
  generalize (x % 4294967296) * (y / 4294967296) = r at *
  generalize (x / 4294967296) * (y / 4294967296) = t at *
  have hw := and_low (q + p / 4294967296) (by omega)
  refine guard_i (inR_u64.2 (by omega)) (guard_i (inR_u64.2 (by omega)) (guard_i (inR_u64.2 (by omega)) ?_))
  rw [hw]
  refine guard_i (inR_u64.2 (by omega)) (guard_i (inR_u64.2 (by omega)) (guard_i (inR_u64.2 (by omega)) (guard_i (inR_u64.2 (by omega)) (guard_i (inR_u64.2 (by omega)) ?_))))
  congr 1
  refine Prod.ext ?_ ?_
  · show t + (q + p / 4294967296) / 4294967296 + ((q + p / 4294967296) % 4294967296 + r) / 4294967296 = _
    omega
  · show IntKind.wrap .u64 _ = _
    rfl
theorem wrap_u64' (n : Int) : IntKind.wrap .u64 n = n % 18446744073709551616 := rfl
theorem size_eq (n : Int) (h : 0 ≤ n ∧ n ≤ 9223372036854775807) : money_size n = some n := by
  unfold money_size
  rw [if_neg (by omega), wrap_u64']
  congr 1; omega
theorem div64_small (lo y : Int) (hl : 0 ≤ lo ∧ lo ≤ 18446744073709551615) (hy : 0 < y) : math_bits_Div64 0 lo y = some (lo / y, lo % y) := by
  unfold math_bits_Div64
  rw [if_neg (by omega), if_neg (by omega), if_pos rfl, if_pos (by omega)]
  rw [Int.tdiv_eq_ediv_of_nonneg hl.1, Int.tmod_eq_emod_of_nonneg hl.1]
  have h0 : 0 ≤ lo / y := Int.ediv_nonneg hl.1 (by omega)
  have h1 : lo / y ≤ lo := Int.ediv_le_self y hl.1
  exact guard_i (inR_u64.2 (by omega)) rfl
theorem ratio_eq (n m : Int) (hn : 0 ≤ n ∧ n ≤ 1125899906842624) (hm : 0 ≤ m ∧ m ≤ 1000) : money_Ratio n m = some (n * m / 1000, 0) := by
  have hb := mul_bnd hn.1 hn.2 hm.1 (show m ≤ 1125899906842624 by omega)
  have hb2 : n * m ≤ 1125899906842624 * 1000 := Int.mul_le_mul hn.2 hm.2 hm.1 (by omega)
  have hdiv : 0 ≤ n * m / 1000 ∧ n * m / 1000 ≤ 1125899906842624 := by omega
  have hmod : 0 ≤ n * m % 1000 := by omega
  unfold money_Ratio
  have hf : money_Fits n = some true := by
    unfold money_Fits
    rw [if_pos (by omega), decide_eq_true (by omega)]
  rw [hf, Option.bind_some, if_pos rfl, size_eq 1000 (by omega), size_eq n (by omega), size_eq m (by omega)]
  simp only [Option.bind_some]
  rw [mul64_eq n m (by omega) (by omega), Option.bind_some]
  have e1 : n * m / 18446744073709551616 = 0 := by omega
  have e2 : n * m % 18446744073709551616 = n * m := by omega
  rw [e1, e2]
  dsimp only
  rw [if_neg (by omega), div64_small _ _ (by omega) (by omega), Option.bind_some]
  dsimp only
  have k3 : (decide (n < 0) = !((decide (m < 0)) == false)) := by
    rw [decide_eq_false (show ¬ n < 0 by omega), decide_eq_false (show ¬ m < 0 by omega)]; rfl
  rw [if_neg (by omega), if_pos k3]
  exact guard_i (inR_i64.2 (by omega)) rfl
theorem amount_eq (d : Tapi_Discount) (c : Int) : ∃ r, discount_Amount d c = some r ∧ tollwayref24_Amount d c = some r ∧ 0 ≤ r ∧ r ≤ 1125899906842624 ∧ (0 ≤ c → r ≤ c ∨ r = 0) := by
  obtain ⟨k, hk, hf⟩ := check_tot d
  unfold discount_Amount tollwayref24_Amount
  rw [check_eq, hk, Option.bind_some, Option.bind_some]
  by_cases h0 : k = 0
  case neg => rw [if_neg h0, if_neg h0]; exact ⟨0, rfl, rfl, by omega, by omega, by omega⟩
  obtain ⟨⟨f1, f2, f3⟩, f4, f5⟩ := hf h0
  rw [if_pos h0, if_pos h0]
  by_cases h1 : c < 0
  case pos => rw [if_pos h1, if_pos h1]; exact ⟨0, rfl, rfl, by omega, by omega, by omega⟩
  rw [if_neg h1, if_neg h1]
  by_cases h2 : c > 1125899906842624
  case pos => rw [if_pos h2, if_pos h2]; exact ⟨0, rfl, rfl, by omega, by omega, by omega⟩
  rw [if_neg h2, if_neg h2]
  by_cases h3 : d.Kind = 1
  · rw [if_pos h3, if_pos h3, ratio_eq c d.Amount (by omega) ⟨f3, f4 h3⟩, Option.bind_some]
    have hb := mul_bnd (show 0 ≤ c by omega) (show c ≤ 1125899906842624 by omega) f3 (show d.Amount ≤ 1125899906842624 by have := f4 h3; omega)
    have hb2 : c * d.Amount ≤ c * 1000 := Int.mul_le_mul_of_nonneg_left (f4 h3) (by omega)
    have e : Int.tdiv (c * d.Amount) 1000 = c * d.Amount / 1000 := Int.tdiv_eq_ediv_of_nonneg hb.1
    refine ⟨c * d.Amount / 1000, rfl, ?_, by omega, by omega, by omega⟩
    rw [e]
    exact guard_i (inR_i64.2 (by omega)) (guard_i (inR_i64.2 (by omega)) rfl)
  rw [if_neg h3, if_neg h3]
  by_cases h4 : d.Kind = 2
  · rw [if_pos h4, if_pos h4]
    have := f5 h4
    by_cases h5 : c < d.Amount
    · rw [if_pos h5, if_neg (by omega)]
      exact ⟨c, rfl, rfl, by omega, by omega, by omega⟩
    · rw [if_neg h5]
      by_cases h6 : d.Amount < c
      · rw [if_pos h6]; exact ⟨d.Amount, rfl, rfl, by omega, by omega, by omega⟩
      · rw [if_neg h6]; exact ⟨c, by rw [show d.Amount = c by omega], rfl, by omega, by omega, by omega⟩
  · rw [if_neg h4, if_neg h4]
    exact ⟨c, rfl, rfl, by omega, by omega, by omega⟩
theorem short_tot (d : Tapi_Discount) : ∃ b, tollwaylaw24_short d = some b := by
  unfold tollwaylaw24_short
  repeat' split
  all_goals exact ⟨_, rfl⟩
end Go.Proofs.Ytabjlmlfmafllaa.Av
