/- The reference finds the same leaves. (Plain.) -/
import Derived.Test.YtpadimnchmghpaaGreatDoorPC
set_option linter.unusedVariables false
set_option linter.unusedSimpArgs false
set_option maxHeartbeats 1000000
namespace Go.Proofs.YtpadimnchmghpaaGreatDoor.Av
open Go Go.Proofs
theorem below_eq {a b : List Int} (hab : a.length = b.length) (hsz : ∀ t, (upN t a).length ≤ 1000000) : ∀ (t fuel i : Nat) (l : List Int) (n : Int), t < fuel → t < (levR a).length → i < (upN t a).length → l.length + 2 ^ t ≤ 2147483648 → 0 ≤ n → n + 2 * ((2 ^ t : Nat) : Int) ≤ 2147483648 →
    ∃ n', n ≤ n' ∧ n' ≤ n + 2 * ((2 ^ t : Nat) : Int) - 1 ∧ tollwayref08_below_fuel fuel ((levR a).take (t + 1)) ((levR b).take (t + 1)) (i : Int) l n = some (l ++ (if difD a b t i = true then ED (lenD a) (difD a b) t i else []).map (fun (j : Nat) => (j : Int)), n')
  | t, 0, i, l, n, hf, _, _, _, _, _ => by omega
  | 0, fuel + 1, i, l, n, hf, ht, hi, hl, h0, hn => by
    have hX := levR_get 0 (l := a) ht
    have hY := levR_get 0 (l := b) (by rw [← levR_len _ (Nat.le_refl _) hab]; omega)
    have hb := upN_len 0 hab
    have la : ((levR a).take 1).length = 1 := by rw [List.length_take]; omega
    have gX : ((levR a).take 1)[0]? = some (upN 0 a) := by rw [List.getElem?_take]; simpa using hX
    have gY : ((levR b).take 1)[0]? = some (upN 0 b) := by rw [List.getElem?_take]; simpa using hY
    have e1 : Int.toNat ((((levR a).take 1).length : Int) - 1) = 0 := by rw [la]; rfl
    have x0 := List.getElem?_eq_getElem hi
    have y0 := List.getElem?_eq_getElem (l := upN 0 b) (i := i) (by omega)
    have hs := hsz 0
    simp only [Nat.pow_zero] at *
    refine ⟨n + 1, by omega, by omega, ?_⟩
    show tollwayref08_below (tollwayref08_below_fuel fuel) ((levR a).take (0 + 1)) ((levR b).take (0 + 1)) (i : Int) l n = _
    unfold tollwayref08_below
    simp only [Nat.zero_add]
    refine guard_i (by rw [la, inR_i64]; omega) (ite_f (by rw [la]; omega) (guard_i (by rw [inR_i64]; omega) (guard_i (by rw [la]; omega) (bind_i (by rw [e1]; exact gX) (guard_i (by omega) (bind_i x0 (bind_i (by rw [e1]; exact gY) (bind_i y0 ?_))))))))
    by_cases hd : (upN 0 a)[i] = (upN 0 b)[i]'(by omega)
    · refine ite_t hd ?_
      rw [if_neg (by unfold difD; rw [x0, y0]; simp [hd])]
      simp
    · refine ite_f hd (ite_t (by rw [la]; omega) (guard_i (by omega) ?_))
      rw [if_pos (by unfold difD; rw [x0, y0]; simp [hd])]
      rfl
  | t + 1, fuel + 1, i, l, n, hf, ht, hi, hl, h0, hn => by
    have hX := levR_get (t + 1) (l := a) ht
    have hY := levR_get (t + 1) (l := b) (by rw [← levR_len _ (Nat.le_refl _) hab]; omega)
    have hX0 := levR_get t (l := a) (by omega)
    have hb := upN_len (t + 1) hab
    have hb0 := upN_len t hab
    have la : ((levR a).take (t + 1 + 1)).length = t + 2 := by rw [List.length_take]; omega
    have lb : ((levR b).take (t + 1 + 1)).length = t + 2 := by rw [List.length_take, ← levR_len _ (Nat.le_refl _) hab]; omega
    have gX : ((levR a).take (t + 1 + 1))[t + 1]? = some (upN (t + 1) a) := by rw [List.getElem?_take, if_pos (by omega)]; exact hX
    have gX0 : ((levR a).take (t + 1 + 1))[t]? = some (upN t a) := by rw [List.getElem?_take, if_pos (by omega)]; exact hX0
    have gY : ((levR b).take (t + 1 + 1))[t + 1]? = some (upN (t + 1) b) := by rw [List.getElem?_take, if_pos (by omega)]; exact hY
    have e1 : Int.toNat ((((levR a).take (t + 1 + 1)).length : Int) - 1) = t + 1 := by rw [la]; omega
    have e0 : Int.toNat ((((levR a).take (t + 1 + 1)).length : Int) - 1 - 1) = t := by rw [la]; omega
    have tA : List.take (Int.toNat ((((levR a).take (t + 1 + 1)).length : Int) - 1)) ((levR a).take (t + 1 + 1)) = (levR a).take (t + 1) := by rw [e1, List.take_take, Nat.min_eq_left (by omega)]
    have tB : List.take (Int.toNat ((((levR a).take (t + 1 + 1)).length : Int) - 1)) ((levR b).take (t + 1 + 1)) = (levR b).take (t + 1) := by rw [e1, List.take_take, Nat.min_eq_left (by omega)]
    have x0 := List.getElem?_eq_getElem hi
    have y0 := List.getElem?_eq_getElem (l := upN (t + 1) b) (i := i) (by omega)
    have hs := hsz (t + 1)
    have hs0 := hsz t
    have hi2 := hi
    rw [upN_succ, upR_len] at hi2
    have hlb : (levR a).length ≤ 4294967296 := by
      have := levR_few 20 (a := a) (by have := hsz 0; simp only [upN] at this; omega)
      omega
    rw [Nat.pow_succ] at hl hn ⊢
    generalize hq : (2 : Nat) ^ t = q at *
    have hq1 : 1 ≤ q := by rw [← hq]; exact Nat.one_le_two_pow
    have two : ((2 * i : Nat) : Int) = 2 * (i : Int) := by omega
    have twoi : ((2 * i + 1 : Nat) : Int) = 2 * (i : Int) + 1 := by omega
    show ∃ n', n ≤ n' ∧ _ ∧ tollwayref08_below (tollwayref08_below_fuel fuel) ((levR a).take (t + 1 + 1)) ((levR b).take (t + 1 + 1)) (i : Int) l n = _
    unfold tollwayref08_below
    by_cases hlone : 2 * i + 1 = (upN t a).length
    · obtain ⟨n1, g1, g2, g3⟩ := below_eq hab hsz t fuel (2 * i) l n (by omega) (by omega) (by omega) (by omega) h0 (by omega)
      rw [two] at g3
      refine ⟨n1, g1, by omega, ?_⟩
      refine guard_i (by rw [la, inR_i64]; omega) (ite_t (by rw [la]; omega) (guard_i (by rw [inR_i64]; omega) (guard_i (by rw [inR_i64]; omega) (guard_i (by rw [la, inR_i64]; omega) (guard_i (by rw [la]; omega) (bind_i (by rw [e0]; exact gX0) (ite_t (by omega) (guard_i (by rw [la]; omega) (guard_i (by rw [e1, la]; omega) (guard_i (by rw [e1, lb]; omega) (bind_i (by rw [tA, tB]; exact g3) ?_)))))))))))
      rw [← difD_lone hab (show 2 * i + 1 = lenD a t from hlone)]
      show some _ = some _
      congr 3
      by_cases hd : difD a b (t + 1) i = true
      · rw [if_pos hd, if_pos hd]
        conv => rhs; unfold ED
        rw [chD, if_pos (show 2 * i + 1 = lenD a t from hlone), List.flatMap_singleton]
      · rw [if_neg hd, if_neg hd]
    · by_cases hd : (upN (t + 1) a)[i] = (upN (t + 1) b)[i]'(by omega)
      · refine ⟨n + 1, by omega, by omega, ?_⟩
        refine guard_i (by rw [la, inR_i64]; omega) (ite_t (by rw [la]; omega) (guard_i (by rw [inR_i64]; omega) (guard_i (by rw [inR_i64]; omega) (guard_i (by rw [la, inR_i64]; omega) (guard_i (by rw [la]; omega) (bind_i (by rw [e0]; exact gX0) (ite_f (by omega) (guard_i (by rw [inR_i64]; omega) (guard_i (by rw [la]; omega) (bind_i (by rw [e1]; exact gX) (guard_i (by omega) (bind_i x0 (bind_i (by rw [e1]; exact gY) (bind_i y0 (ite_t hd ?_)))))))))))))))
        rw [if_neg (by unfold difD; rw [x0, y0]; simp [hd])]
        simp
      · have hdd : difD a b (t + 1) i = true := by unfold difD; rw [x0, y0]; simp [hd]
        obtain ⟨n1, g1, g2, g3⟩ := below_eq hab hsz t fuel (2 * i) l (n + 1) (by omega) (by omega) (by omega) (by omega) (by omega) (by omega)
        rw [two] at g3
        have hel : (if difD a b t (2 * i) = true then ED (lenD a) (difD a b) t (2 * i) else []).length ≤ q := by
          split
          · rw [← hq]; exact ED_len t (2 * i)
          · simp
        obtain ⟨n2, k1, k2, k3⟩ := below_eq hab hsz t fuel (2 * i + 1) (l ++ (if difD a b t (2 * i) = true then ED (lenD a) (difD a b) t (2 * i) else []).map (fun (j : Nat) => (j : Int))) n1 (by omega) (by omega) (by omega) (by rw [List.length_append, List.length_map]; omega) (by omega) (by omega)
        rw [twoi] at k3
        refine ⟨n2, by omega, by omega, ?_⟩
        refine guard_i (by rw [la, inR_i64]; omega) (ite_t (by rw [la]; omega) (guard_i (by rw [inR_i64]; omega) (guard_i (by rw [inR_i64]; omega) (guard_i (by rw [la, inR_i64]; omega) (guard_i (by rw [la]; omega) (bind_i (by rw [e0]; exact gX0) (ite_f (by omega) (guard_i (by rw [inR_i64]; omega) (guard_i (by rw [la]; omega) (bind_i (by rw [e1]; exact gX) (guard_i (by omega) (bind_i x0 (bind_i (by rw [e1]; exact gY) (bind_i y0 (ite_f hd (ite_f (by rw [la]; omega) (guard_i (by rw [e1, la]; omega) (guard_i (by rw [e1, lb]; omega) (bind_i (by rw [tA, tB]; exact g3) (bind_i (by rw [tA, tB]; exact k3) ?_))))))))))))))))))))
        rw [if_pos hdd]
        show some _ = some _
        congr 2
        rw [List.append_assoc, ← List.map_append]
        congr 2
        conv => rhs; unfold ED
        rw [chD, if_neg (show ¬ 2 * i + 1 = lenD a t from hlone)]
        by_cases q0 : difD a b t (2 * i) = true <;> by_cases q1 : difD a b t (2 * i + 1) = true <;> simp [q0, q1]
theorem refDiffer_eq {a b : List Int} (ha : ListR a) (hb : ListR b) (hab : a.length = b.length) (hl : a.length ≤ 64) : ∃ c, tollwayref08_Differ a b = some ((diffR a b).map (fun (j : Nat) => (j : Int)), c) := by
  have hsz : ∀ t, (upN t a).length ≤ 1000000 := upN_small (by omega) (by omega)
  have hk := levR_few 6 (a := a) (by omega)
  have hp := levR_pos a
  unfold tollwayref08_Differ
  by_cases h0 : a.length = 0
  · refine ⟨0, ite_t (by omega) (ite_t (by omega) ?_)⟩
    have ea : a = [] := List.length_eq_zero_iff.1 h0
    have eb : b = [] := List.length_eq_zero_iff.1 (by omega)
    subst ea eb
    rw [diffR_self]; rfl
  · have hane : a ≠ [] := fun e => h0 (by rw [e]; rfl)
    have ht := levR_top _ (Nat.le_refl _) hane
    have hpw : (2 : Nat) ^ topD a ≤ 2 ^ 6 := Nat.pow_le_pow_right (by omega) (by unfold topD; omega)
    have h64 : (2 : Nat) ^ 6 = 64 := by decide
    obtain ⟨n', g1, g2, g3⟩ := below_eq hab hsz (topD a) 64 0 [] 0 (by unfold topD; omega) (by unfold topD; omega) (by unfold topD; omega) (by simp; omega) (by omega) (by omega)
    have tA : (levR a).take (topD a + 1) = levR a := List.take_of_length_le (by unfold topD; omega)
    have tB : (levR b).take (topD a + 1) = levR b := List.take_of_length_le (by rw [← levR_len _ (Nat.le_refl _) hab]; unfold topD; omega)
    rw [tA, tB] at g3
    refine ⟨n', ite_t (by omega) (ite_f (by omega) (bind_i (refLevels_eq ha (by omega)) (bind_i (refLevels_eq hb (by omega)) (bind_i (by simpa using g3) ?_))))⟩
    unfold diffR
    rfl
end Go.Proofs.YtpadimnchmghpaaGreatDoor.Av
