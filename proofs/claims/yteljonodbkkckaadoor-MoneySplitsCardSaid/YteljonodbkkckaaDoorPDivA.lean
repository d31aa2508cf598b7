/- math/bits: Len64, LeadingZeros64, Mul64 and Div64 compute what they should. -/
import Derived.Test.YteljonodbkkckaaDoorE0
import Derived.Test.YteljonodbkkckaaDoorAvPl
set_option linter.unusedVariables false
set_option linter.unusedSimpArgs false
set_option maxHeartbeats 4000000
set_option maxRecDepth 100000
namespace Go.Proofs.YteljonodbkkckaaDoor.Av
open Go Go.Proofs
def len8 : List UInt8 := [0, 1, 2, 2, 3, 3, 3, 3, 4, 4, 4, 4, 4, 4, 4, 4, 5, 5, 5, 5, 5, 5, 5, 5, 5, 5, 5, 5, 5, 5, 5, 5, 6, 6, 6, 6, 6, 6, 6, 6, 6, 6, 6, 6, 6, 6, 6, 6, 6, 6, 6, 6, 6, 6, 6, 6, 6, 6, 6, 6, 6, 6, 6, 6, 7, 7, 7, 7, 7, 7, 7, 7, 7, 7, 7, 7, 7, 7, 7, 7, 7, 7, 7, 7, 7, 7, 7, 7, 7, 7, 7, 7, 7, 7, 7, 7, 7, 7, 7, 7, 7, 7, 7, 7, 7, 7, 7, 7, 7, 7, 7, 7, 7, 7, 7, 7, 7, 7, 7, 7, 7, 7, 7, 7, 7, 7, 7, 7, 8, 8, 8, 8, 8, 8, 8, 8, 8, 8, 8, 8, 8, 8, 8, 8, 8, 8, 8, 8, 8, 8, 8, 8, 8, 8, 8, 8, 8, 8, 8, 8, 8, 8, 8, 8, 8, 8, 8, 8, 8, 8, 8, 8, 8, 8, 8, 8, 8, 8, 8, 8, 8, 8, 8, 8, 8, 8, 8, 8, 8, 8, 8, 8, 8, 8, 8, 8, 8, 8, 8, 8, 8, 8, 8, 8, 8, 8, 8, 8, 8, 8, 8, 8, 8, 8, 8, 8, 8, 8, 8, 8, 8, 8, 8, 8, 8, 8, 8, 8, 8, 8, 8, 8, 8, 8, 8, 8, 8, 8, 8, 8, 8, 8, 8, 8, 8, 8, 8, 8, 8, 8, 8, 8, 8, 8, 8, 8]
theorem len8_all : ∀ i : Nat, i < 256 → 0 < i → (len8.getD i 0).toNat ≤ 8 ∧ 1 ≤ (len8.getD i 0).toNat ∧ 2 ^ ((len8.getD i 0).toNat - 1) ≤ i ∧ i < 2 ^ (len8.getD i 0).toNat := by decide +kernel
theorem len8_len : len8.length = 256 := by decide +kernel
theorem len_fin (c x i : Nat) (hi : i = x / 2 ^ c) (h1 : i < 256) (h2 : 0 < i) : ∃ v : UInt8, len8[i]? = some v ∧ v.toNat ≤ 8 ∧ 1 ≤ v.toNat ∧ 2 ^ (c + v.toNat - 1) ≤ x ∧ x < 2 ^ (c + v.toNat) := by
  have hl : i < len8.length := by rw [len8_len]; exact h1
  have hg : len8[i]? = some (len8.getD i 0) := by rw [List.getD_eq_getElem?_getD, List.getElem?_eq_getElem hl]; rfl
  obtain ⟨g1, g2, g3, g4⟩ := len8_all i h1 h2
  refine ⟨_, hg, g1, g2, ?_, ?_⟩
  · rw [show c + (len8.getD i 0).toNat - 1 = ((len8.getD i 0).toNat - 1) + c by omega, Nat.pow_add]
    rw [hi] at g3 ⊢
    exact (Nat.le_div_iff_mul_le (Nat.two_pow_pos c)).1 g3
  · rw [Nat.add_comm c, Nat.pow_add]
    rw [hi] at g4 ⊢
    exact (Nat.div_lt_iff_lt_mul (Nat.two_pow_pos c)).1 g4
theorem sh32 (x : Int) : Int.fdiv x (2 ^ (min (Int.toNat 32) (IntKind.bits .u64))) = x / 4294967296 := by
  show Int.fdiv x (2 ^ 32) = _
  rw [Int.fdiv_eq_ediv_of_nonneg _ (by omega)]
  rfl
theorem sh16 (x : Int) : Int.fdiv x (2 ^ (min (Int.toNat 16) (IntKind.bits .u64))) = x / 65536 := by
  show Int.fdiv x (2 ^ 16) = _
  rw [Int.fdiv_eq_ediv_of_nonneg _ (by omega)]
  rfl
theorem sh8 (x : Int) : Int.fdiv x (2 ^ (min (Int.toNat 8) (IntKind.bits .u64))) = x / 256 := by
  show Int.fdiv x (2 ^ 8) = _
  rw [Int.fdiv_eq_ediv_of_nonneg _ (by omega)]
  rfl

/-- a branch's end -/
def brk (c idx : Int) : Option Int := if InR .u8 idx then if (0 : Int) ≤ idx then (len8[Int.toNat idx]?).bind fun x => if InR .i64 ((x.toNat : Int)) then if InR .i64 (c + (x.toNat : Int)) then some (c + (x.toNat : Int)) else none else none else none else none
theorem brk_eq (c x : Nat) (h1 : x / 2 ^ c < 256) (h2 : 0 < x / 2 ^ c) (hc : c ≤ 56) : ∃ n : Nat, brk (c : Int) ((x / 2 ^ c : Nat) : Int) = some (n : Int) ∧ 1 ≤ n ∧ n ≤ 64 ∧ 2 ^ (n - 1) ≤ x ∧ x < 2 ^ n := by
  obtain ⟨v, hv, g1, g2, g3, g4⟩ := len_fin c x _ rfl h1 h2
  refine ⟨c + v.toNat, ?_, by omega, by omega, g3, g4⟩
  unfold brk
  generalize x / 2 ^ c = i at *
  exact guard_i (inR_u8.2 (by omega)) (guard_i (by omega) (bind_i (by rw [Int.toNat_natCast]; exact hv) (guard_i (inR_i64.2 (by omega)) (guard_i (inR_i64.2 (by omega)) (by congr 1)))))
theorem len64_eq (x : Nat) (h : 0 < x) (h2 : x < 18446744073709551616) : ∃ n : Nat, math_bits_Len64 (x : Int) = some (n : Int) ∧ 1 ≤ n ∧ n ≤ 64 ∧ 2 ^ (n - 1) ≤ x ∧ x < 2 ^ n := by
  unfold math_bits_Len64
  simp only [sh32, sh16, sh8, Option.bind_some]
  by_cases a1 : (x : Int) ≥ 4294967296
  · rw [if_pos a1]
    by_cases a2 : (x : Int) / 4294967296 ≥ 65536
    · rw [if_pos a2]
      by_cases a3 : (x : Int) / 4294967296 / 65536 ≥ 256
      · rw [if_pos a3]
        have hi : (x : Int) / 4294967296 / 65536 / 256 = ((x / 2 ^ 56 : Nat) : Int) := by omega
        rw [hi]
        exact brk_eq 56 x (by omega) (by omega) (by omega)
      · rw [if_neg a3]
        have hi : (x : Int) / 4294967296 / 65536 = ((x / 2 ^ 48 : Nat) : Int) := by omega
        rw [hi]
        exact brk_eq 48 x (by omega) (by omega) (by omega)
    · rw [if_neg a2]
      by_cases a3 : (x : Int) / 4294967296 ≥ 256
      · rw [if_pos a3]
        have hi : (x : Int) / 4294967296 / 256 = ((x / 2 ^ 40 : Nat) : Int) := by omega
        rw [hi]
        exact brk_eq 40 x (by omega) (by omega) (by omega)
      · rw [if_neg a3]
        have hi : (x : Int) / 4294967296 = ((x / 2 ^ 32 : Nat) : Int) := by omega
        rw [hi]
        exact brk_eq 32 x (by omega) (by omega) (by omega)
  · rw [if_neg a1]
    by_cases a2 : (x : Int) ≥ 65536
    · rw [if_pos a2]
      by_cases a3 : (x : Int) / 65536 ≥ 256
      · rw [if_pos a3]
        have hi : (x : Int) / 65536 / 256 = ((x / 2 ^ 24 : Nat) : Int) := by omega
        rw [hi]
        exact brk_eq 24 x (by omega) (by omega) (by omega)
      · rw [if_neg a3]
        have hi : (x : Int) / 65536 = ((x / 2 ^ 16 : Nat) : Int) := by omega
        rw [hi]
        exact brk_eq 16 x (by omega) (by omega) (by omega)
    · rw [if_neg a2]
      by_cases a3 : (x : Int) ≥ 256
      · rw [if_pos a3]
        have hi : (x : Int) / 256 = ((x / 2 ^ 8 : Nat) : Int) := by omega
        rw [hi]
        exact brk_eq 8 x (by omega) (by omega) (by omega)
      · rw [if_neg a3]
        have hi : x / 2 ^ 0 = x := by simp
        have := brk_eq 0 x (by omega) (by omega) (by omega)
        rw [hi] at this
        exact this
theorem lz64_eq (x : Nat) (h : 0 < x) (h2 : x < 18446744073709551616) : ∃ s : Nat, math_bits_LeadingZeros64 (x : Int) = some (s : Int) ∧ s ≤ 63 ∧ 9223372036854775808 ≤ x * 2 ^ s ∧ x * 2 ^ s < 18446744073709551616 := by
  obtain ⟨n, hn, n1, n2, n3, n4⟩ := len64_eq x h h2
  refine ⟨64 - n, ?_, by omega, ?_, ?_⟩
  · unfold math_bits_LeadingZeros64
    refine bind_i hn (guard_i (inR_i64.2 (by omega)) ?_)
    congr 1; omega
  · have e : 2 ^ (n - 1) * 2 ^ (64 - n) = 9223372036854775808 := by rw [← Nat.pow_add, show n - 1 + (64 - n) = 63 by omega]
    rw [← e]
    exact Nat.mul_le_mul_right _ n3
  · have e : 2 ^ n * 2 ^ (64 - n) = 18446744073709551616 := by rw [← Nat.pow_add, show n + (64 - n) = 64 by omega]
    rw [← e]
    exact Nat.mul_lt_mul_of_pos_right n4 (Nat.two_pow_pos _)
end Go.Proofs.YteljonodbkkckaaDoor.Av
