/- MoneyRounds' plain law. -/
import Derived.Test.YteljonodbkkckabDoorPRat
import Derived.Test.YteljonodbkkckabDoorE2a
set_option linter.unusedVariables false
set_option linter.unusedSimpArgs false
set_option maxHeartbeats 4000000
set_option maxRecDepth 100000
namespace Go.Proofs.YteljonodbkkckabDoor.Av
open Go Go.Proofs
theorem ratio_b (n num den m : Int) : -1125899906842624 ≤ (ratioR n num den m).1 ∧ (ratioR n num den m).1 ≤ 1125899906842624 := by
  unfold ratioR
  have h1 := Int.ediv_nonneg (show 0 ≤ absZ n * absZ num from Int.mul_nonneg (absZ_nn n) (absZ_nn num)) (absZ_nn den)
  generalize absZ n * absZ num / absZ den = q at *
  have h2 : 0 ≤ rq m q (absZ n * absZ num % absZ den) (absZ den) := by
    unfold rq
    repeat' split
    all_goals omega
  generalize rq m q (absZ n * absZ num % absZ den) (absZ den) = Q at *
  dsimp only
  repeat' split
  all_goals (try dsimp only)
  all_goals omega
theorem ratio_opp (n num den n' num' den' m : Int) (hf : fit n' = fit n) (h1 : absZ n' = absZ n) (h2 : absZ num' = absZ num) (h3 : absZ den' = absZ den) (hd : den' = 0 ↔ den = 0)
    (hp : plus n' num' den' = !plus n num den ∨ absZ n * absZ num = 0) : (ratioR n num den m).1 = 0 - (ratioR n' num' den' m).1 ∧ (ratioR n num den m).2 = (ratioR n' num' den' m).2 := by
  unfold ratioR
  rw [hf, h1, h2, h3]
  by_cases c1 : fit n = false
  · rw [if_pos c1, if_pos c1]; exact ⟨rfl, rfl⟩
  rw [if_neg c1, if_neg c1]
  by_cases c2 : ¬ (m = 1 ∨ m = 2 ∨ m = 3)
  · rw [if_pos c2, if_pos c2]; exact ⟨rfl, rfl⟩
  rw [if_neg c2, if_neg c2]
  by_cases c3 : den = 0
  · rw [if_pos c3, if_pos (hd.2 c3)]; exact ⟨rfl, rfl⟩
  rw [if_neg c3, if_neg (fun h => c3 (hd.1 h))]
  rcases hp with hp | hp
  · generalize rq m (absZ n * absZ num / absZ den) (absZ n * absZ num % absZ den) (absZ den) = Q
    dsimp only
    by_cases c4 : Q > 1125899906842624
    · rw [if_pos c4, if_pos c4]; exact ⟨rfl, rfl⟩
    rw [if_neg c4, if_neg c4, hp]
    cases plus n num den with
    | true => exact ⟨by show Q = 0 - (0 - Q); omega, rfl⟩
    | false => exact ⟨by show 0 - Q = 0 - Q; rfl, rfl⟩
  · rw [hp]
    have hD : 0 < absZ den := by unfold absZ; split <;> omega
    have e : rq m (0 / absZ den) (0 % absZ den) (absZ den) = 0 := by
      rw [Int.zero_ediv, Int.zero_emod]
      unfold rq
      repeat' split
      all_goals omega
    rw [e]
    have h9 : ¬ ((0 : Int) > 1125899906842624) := by decide
    dsimp only
    rw [if_neg h9, if_neg h9]
    constructor
    · dsimp only; split <;> split <;> rfl
    · rfl
theorem fit_neg (n : Int) : fit (0 - n) = fit n := by
  rw [Bool.eq_iff_iff, fit_iff, fit_iff]; omega
theorem ratio_neg_n (n num den m : Int) : (ratioR n num den m).1 = 0 - (ratioR (0 - n) num den m).1 ∧ (ratioR n num den m).2 = (ratioR (0 - n) num den m).2 := by
  refine ratio_opp n num den (0 - n) num den m (fit_neg n) (absZ_neg n) rfl rfl Iff.rfl ?_
  by_cases h : n = 0
  · right; subst h; simp [absZ]
  · left
    unfold plus
    have e : decide (0 - n < 0) = !decide (n < 0) := by
      by_cases h2 : n < 0
      · rw [decide_eq_true h2, decide_eq_false (by omega)]; rfl
      · rw [decide_eq_false h2, decide_eq_true (by omega)]; rfl
    rw [e]
    cases decide (n < 0) <;> cases decide (num < 0) <;> cases decide (den < 0) <;> rfl
theorem ratio_neg_num (n num den m : Int) : (ratioR n num den m).1 = 0 - (ratioR n (0 - num) den m).1 ∧ (ratioR n num den m).2 = (ratioR n (0 - num) den m).2 := by
  refine ratio_opp n num den n (0 - num) den m rfl rfl (absZ_neg num) rfl Iff.rfl ?_
  by_cases h : num = 0
  · right; subst h; simp [absZ]
  · left
    unfold plus
    have e : decide (0 - num < 0) = !decide (num < 0) := by
      by_cases h2 : num < 0
      · rw [decide_eq_true h2, decide_eq_false (by omega)]; rfl
      · rw [decide_eq_false h2, decide_eq_true (by omega)]; rfl
    rw [e]
    cases decide (n < 0) <;> cases decide (num < 0) <;> cases decide (den < 0) <;> rfl
theorem ratio_neg_den (n num den m : Int) : (ratioR n num den m).1 = 0 - (ratioR n num (0 - den) m).1 ∧ (ratioR n num den m).2 = (ratioR n num (0 - den) m).2 := by
  by_cases h : den = 0
  · subst h
    have h0 : (ratioR n num 0 m).1 = 0 := by
      unfold ratioR
      by_cases c1 : fit n = false
      · rw [if_pos c1]
      rw [if_neg c1]
      by_cases c2 : ¬ (m = 1 ∨ m = 2 ∨ m = 3)
      · rw [if_pos c2]
      rw [if_neg c2, if_pos rfl]
    rw [show (0 : Int) - 0 = 0 by decide, h0]
    exact ⟨rfl, rfl⟩
  refine ratio_opp n num den n num (0 - den) m rfl rfl rfl (absZ_neg den) (by omega) (.inl ?_)
  unfold plus
  have e : decide (0 - den < 0) = !decide (den < 0) := by
    by_cases h2 : den < 0
    · rw [decide_eq_true h2, decide_eq_false (by omega)]; rfl
    · rw [decide_eq_false h2, decide_eq_true (by omega)]; rfl
  rw [e]
  cases decide (n < 0) <;> cases decide (num < 0) <;> cases decide (den < 0) <;> rfl
theorem opposite_eq (a e b f : Int) (hb : -1125899906842624 ≤ b ∧ b ≤ 1125899906842624) (h1 : a = 0 - b) (h2 : e = f) : tollwaylaw03_opposite a e b f = some true := by
  unfold tollwaylaw03_opposite
  refine guard_i (inR_i64.2 (by omega)) (ite_t h1 ?_)
  subst h2; simp
theorem loop43 (n num den : Int) (hn : -1125899906842624 ≤ n ∧ n ≤ 1125899906842624) (hu : -9223372036854775808 < num ∧ num ≤ 9223372036854775807) (hd : -9223372036854775808 < den ∧ den ≤ 9223372036854775807) :
    lp (tollwaylaw03_MoneyRounds_L43_step n num den) ((0 : Nat), ([1, 2, 3] : List Int)) = some (.inr [1, 2, 3]) := by
  have key : ∀ (k : Nat) (m : Int), k < 3 → ([1, 2, 3] : List Int)[k]? = some m → tollwaylaw03_MoneyRounds_L43_step n num den (k, [1, 2, 3]) = some (.inl (k + 1, [1, 2, 3])) := fun k m hk hm => by
    unfold tollwaylaw03_MoneyRounds_L43_step
    refine ite_t (by omega) (bind_i hm (bind_i (ratio_eq n num den m (by omega) (by omega) (by omega)) (guard_i (inR_i64.2 (by omega)) (bind_i (ratio_eq (0 - n) num den m (by omega) (by omega) (by omega)) (guard_i (inR_i64.2 (by omega)) (bind_i (ratio_eq n (0 - num) den m (by omega) (by omega) (by omega)) (guard_i (inR_i64.2 (by omega)) (bind_i (ratio_eq n num (0 - den) m (by omega) (by omega) (by omega)) ?_))))))))
    exact bind_i (opposite_eq _ _ _ _ (ratio_b _ _ _ _) (ratio_neg_n n num den m).1 (ratio_neg_n n num den m).2) (ite_t rfl (bind_i (opposite_eq _ _ _ _ (ratio_b _ _ _ _) (ratio_neg_num n num den m).1 (ratio_neg_num n num den m).2) (ite_t rfl (bind_i (opposite_eq _ _ _ _ (ratio_b _ _ _ _) (ratio_neg_den n num den m).1 (ratio_neg_den n num den m).2) (ite_t rfl (guard_i (inR_i64.2 (by omega)) rfl))))))
  rw [lp_go (key 0 1 (by decide) rfl), lp_go (key 1 2 (by decide) rfl), lp_go (key 2 3 (by decide) rfl)]
  refine lp_end ?_
  unfold tollwaylaw03_MoneyRounds_L43_step
  exact ite_f (by decide) rfl
end Go.Proofs.YteljonodbkkckabDoor.Av
