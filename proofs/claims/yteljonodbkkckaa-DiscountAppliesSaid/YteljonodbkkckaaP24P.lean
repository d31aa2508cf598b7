/- Discounts: Applies answers alike. -/
import Derived.Test.YteljonodbkkckaaP24B
import Derived.Test.YteljonodbkkckaaD4
set_option linter.unusedVariables false
set_option linter.unusedSimpArgs false
set_option maxHeartbeats 4000000
namespace Go.Proofs.Yteljonodbkkckaa.Av
open Go Go.Proofs
theorem and_one (x : Int) (h : 0 ≤ x ∧ x ≤ 9223372036854775807) : IntKind.wrap .i64 ((BitVec.ofInt (IntKind.bits .i64) x &&& BitVec.ofInt (IntKind.bits .i64) 1).toNat : Int) = x % 2 := by
  obtain ⟨n, rfl⟩ := Int.eq_ofNat_of_zero_le h.1
  have e1 : (BitVec.ofInt 64 (n : Int)).toNat = n := by
    rw [BitVec.toNat_ofInt]; omega
  have e2 : (BitVec.ofInt 64 1).toNat = 1 := by decide
  show IntKind.wrap .i64 ((BitVec.ofInt 64 (n : Int) &&& BitVec.ofInt 64 1).toNat : Int) = _
  rw [BitVec.toNat_and, e1, e2, Nat.and_one_is_mod, IntKind.wrap_i64]
  omega
theorem half_pow (n j : Nat) : (n : Int) / 2 ^ j = ((n / 2 ^ j : Nat) : Int) := by
  rw [Int.natCast_ediv]; simp
theorem set_eq (n k : Nat) (hn : n ≤ 127) (hk : k ≤ 6) : tollwayref04_set (n : Int) (k : Int) = some (((n / 2 ^ k % 2 : Nat) : Int) == 1) := by
  unfold tollwayref04_set
  obtain ⟨r, hr, hq⟩ := lp_ex2 (step := tollwayref04_set_L1_step (k : Int)) k (fun j s => s = (((n / 2 ^ j : Nat) : Int), j)) (fun r => r = ((n / 2 ^ k : Nat) : Int)) (fun j s hj hi => by
    subst hi
    have hle : n / 2 ^ j ≤ n := Nat.div_le_self _ _
    have e : Int.tdiv ((n / 2 ^ j : Nat) : Int) 2 = ((n / 2 ^ (j + 1) : Nat) : Int) := by
      rw [Int.tdiv_eq_ediv_of_nonneg (Int.natCast_nonneg _), Nat.pow_succ, ← Nat.div_div_eq_div_mul]
      generalize n / 2 ^ j = m
      omega
    have hle2 : n / 2 ^ (j + 1) ≤ n := Nat.div_le_self _ _
    refine .inl ⟨(((n / 2 ^ (j + 1) : Nat) : Int), j + 1), ?_, rfl⟩
    unfold tollwayref04_set_L1_step
    show (if (j : Int) < (k : Int) then _ else _) = _
    rw [e]
    generalize n / 2 ^ (j + 1) = m at hle2 ⊢
    exact ite_t (by omega) (guard_i (inR_i64.2 (by omega)) (guard_i (inR_i64.2 (by omega)) rfl))) (fun s hi => by
    subst hi
    unfold tollwayref04_set_L1_step
    exact ⟨_, ite_f (by omega) rfl, rfl⟩) k 0 ((n : Int), 0) (by omega) (by simp)
  subst hq
  refine bind_i hr ?_
  rw [Int.tmod_eq_emod_of_nonneg (Int.natCast_nonneg _)]
  rfl
theorem on_eq (w : Tapi_Window) (d : Int) (hd : 0 ≤ d) (hw : 1 ≤ w.Days ∧ w.Days ≤ 127) : ∃ b, clock_on w d = some b ∧ tollwayref04_set w.Days (Int.tmod d 7) = some b := by
  have e : Int.tmod d 7 = d % 7 := Int.tmod_eq_emod_of_nonneg hd
  obtain ⟨n, hn⟩ := Int.eq_ofNat_of_zero_le (show 0 ≤ w.Days by omega)
  obtain ⟨k, hk⟩ := Int.eq_ofNat_of_zero_le (show 0 ≤ d % 7 by omega)
  refine ⟨((n / 2 ^ k % 2 : Nat) : Int) == 1, ?_, ?_⟩
  · unfold clock_on
    rw [e, hn, hk]
    refine guard_i (by omega) (bind_i rfl (bind_i rfl ?_))
    have hm : min (Int.toNat (k : Int)) (IntKind.bits .i64) = k := by
      show min (Int.toNat (k : Int)) 64 = k
      omega
    have hle : n / 2 ^ k ≤ n := Nat.div_le_self _ _
    rw [hm, Int.fdiv_eq_ediv_of_nonneg _ (Int.le_of_lt (Int.pow_pos (by omega))), half_pow]
    generalize n / 2 ^ k = m at *
    rw [and_one _ (by omega)]
    rfl
  · rw [e, hn, hk]
    exact set_eq n k (by omega) (by omega)
theorem isTime_eq (t : Int) : clock_isTime t = some (decide (0 ≤ t ∧ t < 68719476736)) ∧ tollwayref04_IsTime t = some (decide (0 ≤ t ∧ t < 68719476736)) := by
  unfold clock_isTime tollwayref04_IsTime
  by_cases h : t ≥ 0
  · rw [if_pos h]; simp [h]
  · rw [if_neg h]; simp; omega
theorem valid_eq (w : Tapi_Window) : ∃ b, clock_valid w = some b ∧ tollwayref04_ValidWindow w = some b ∧ (b = true → 1 ≤ w.Days ∧ w.Days ≤ 127) := by
  unfold clock_valid tollwayref04_ValidWindow
  by_cases h1 : w.Days ≥ 1
  case neg => rw [if_neg h1]; exact ⟨false, rfl, rfl, fun h => by cases h⟩
  rw [if_pos h1]
  by_cases h2 : w.Days ≤ 127
  case neg => rw [if_neg h2]; exact ⟨false, rfl, rfl, fun h => by cases h⟩
  rw [if_pos h2]
  repeat' split
  all_goals exact ⟨_, rfl, rfl, fun _ => ⟨h1, h2⟩⟩
theorem in_eq (w : Tapi_Window) (t : Int) : ∃ b, clock_In w t = some b ∧ tollwayref04_In w t = some b := by
  unfold clock_In tollwayref04_In
  obtain ⟨v, hv1, hv2, hv3⟩ := valid_eq w
  obtain ⟨ht1, ht2⟩ := isTime_eq t
  rw [hv1, hv2, ht1, ht2]
  simp only [Option.bind_some]
  by_cases ht : 0 ≤ t ∧ t < 68719476736
  · rw [decide_eq_true ht, if_pos rfl]
    cases v with
    | false => exact ⟨false, rfl, rfl⟩
    | true =>
      have hd : Int.tdiv t 86400 = t / 86400 := Int.tdiv_eq_ediv_of_nonneg ht.1
      have hmo : Int.tmod t 86400 = t % 86400 := Int.tmod_eq_emod_of_nonneg ht.1
      have hdm : Int.tdiv (t % 86400) 60 = t % 86400 / 60 := Int.tdiv_eq_ediv_of_nonneg (by omega)
      obtain ⟨b, hb1, hb2⟩ := on_eq w (t / 86400) (by omega) (hv3 rfl)
      have m1 : clock_Minute t = some (t % 86400 / 60) := by
        unfold clock_Minute
        rw [ht1, decide_eq_true ht, hmo, hdm]
        exact guard_i (inR_i64.2 (by omega)) rfl
      have m2 : tollwayref04_Minute t = some (t % 86400 / 60) := by
        unfold tollwayref04_Minute
        rw [ht2, decide_eq_true ht, hmo, hdm]
        exact guard_i (inR_i64.2 (by omega)) rfl
      rw [hd, m1, m2, hb1, hb2]
      simp only [if_true, Option.bind_some]
      rw [if_pos (inR_i64.2 (show -9223372036854775808 ≤ t / 86400 ∧ t / 86400 ≤ 9223372036854775807 by omega))]
      cases b with
      | false => exact ⟨false, rfl, rfl⟩
      | true =>
        by_cases hf : t % 86400 / 60 ≥ w.From
        · exact ⟨_, ite_t rfl (ite_t hf rfl), ite_t rfl (ite_t hf rfl)⟩
        · exact ⟨false, ite_t rfl (ite_f hf rfl), ite_t rfl (ite_f hf rfl)⟩
  · rw [decide_eq_false ht]
    cases v with
    | false => exact ⟨false, rfl, rfl⟩
    | true => exact ⟨false, rfl, rfl⟩
theorem applies_eq (d : Tapi_Discount) (x : Tapi_Trip) (e : Int) : ∃ b, discount_Applies d x e = some b ∧ tollwayref24_Applies d x e = some b := by
  unfold discount_Applies tollwayref24_Applies
  obtain ⟨k, hk, _⟩ := check_tot d
  rw [check_eq, hk]
  simp only [Option.bind_some]
  by_cases h0 : k = 0
  case neg => rw [if_neg h0, if_neg h0]; exact ⟨false, rfl, rfl⟩
  rw [if_pos h0, if_pos h0]
  by_cases hS : x.Stops.length = 0
  case pos =>
    have hS' : (x.Stops.length : Int) = 0 := by omega
    simp only [if_pos hS']
    exact ⟨false, rfl, rfl⟩
  have hS' : ¬ (x.Stops.length : Int) = 0 := by omega
  simp only [if_neg hS']
  have hs := List.getElem?_eq_getElem (l := x.Stops) (i := 0) (by omega)
  obtain ⟨b, hb1, hb2⟩ := in_eq d.Window x.Stops[0].Time
  simp only [hs, Option.bind_some, hb1, hb2]
  by_cases h1 : e < d.Least
  · have h1' : decide (e ≥ d.Least) = false := decide_eq_false (by omega)
    simp only [h1', if_pos h1]
    refine ⟨false, rfl, ?_⟩
    repeat' split
    all_goals rfl
  · have h1' : decide (e ≥ d.Least) = true := decide_eq_true (by omega)
    simp only [h1', if_neg h1]
    by_cases h2 : d.System = []
    · simp only [if_pos h2]
      by_cases h3 : d.Class = 0
      · simp only [if_pos h3]
        by_cases h4 : d.Window.Days = 0
        · simp only [if_pos h4]; exact ⟨true, rfl, rfl⟩
        · simp only [if_neg h4]; exact ⟨b, rfl, by cases b <;> rfl⟩
      · simp only [if_neg h3]
        by_cases h5 : d.Class = x.Class
        · simp only [if_pos h5]
          by_cases h4 : d.Window.Days = 0
          · simp only [if_pos h4]; exact ⟨true, rfl, rfl⟩
          · simp only [if_neg h4]; exact ⟨b, rfl, by cases b <;> rfl⟩
        · simp only [if_neg h5]
          exact ⟨false, rfl, by split <;> rfl⟩
    · simp only [if_neg h2]
      by_cases h6 : d.System = x.System
      · simp only [if_pos h6]
        by_cases h3 : d.Class = 0
        · simp only [if_pos h3]
          by_cases h4 : d.Window.Days = 0
          · simp only [if_pos h4]; exact ⟨true, rfl, rfl⟩
          · simp only [if_neg h4]; exact ⟨b, rfl, by cases b <;> rfl⟩
        · simp only [if_neg h3]
          by_cases h5 : d.Class = x.Class
          · simp only [if_pos h5]
            by_cases h4 : d.Window.Days = 0
            · simp only [if_pos h4]; exact ⟨true, rfl, rfl⟩
            · simp only [if_neg h4]; exact ⟨b, rfl, by cases b <;> rfl⟩
          · simp only [if_neg h5]
            exact ⟨false, rfl, by split <;> rfl⟩
      · simp only [if_neg h6]
        refine ⟨false, rfl, ?_⟩
        repeat' split
        all_goals rfl
theorem tollwaylaw24_DiscountApplies_true (d : Tapi_Discount) (x : Tapi_Trip) (e : Int) {p q r : Prop} (_ : p) (_ : q) (_ : r) : tollwaylaw24_DiscountApplies d x e = some true := by
  unfold tollwaylaw24_DiscountApplies
  obtain ⟨b, hb⟩ := short_tot d
  obtain ⟨a, h1, h2⟩ := applies_eq d x e
  rw [hb, h1, h2, Option.bind_some]
  cases b with
  | false => exact ite_f (by decide) (bind_i (v := true) rfl rfl)
  | true =>
    refine ite_t rfl ?_
    by_cases g1 : (x.Stops.length : Int) > 20
    · exact ite_t g1 (bind_i (v := true) rfl rfl)
    · refine ite_f g1 ?_
      by_cases g2 : (x.System.length : Int) > 40
      · exact ite_t g2 (bind_i (v := true) rfl rfl)
      · exact ite_f g2 (bind_i rfl (bind_i rfl (ite_t rfl (bind_i (v := true) rfl rfl))))
end Go.Proofs.Yteljonodbkkckaa.Av
