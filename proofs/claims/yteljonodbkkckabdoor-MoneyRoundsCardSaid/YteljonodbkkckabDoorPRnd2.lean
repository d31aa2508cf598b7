/- MoneyRounds' plain law: the rest. -/
import Derived.Test.YteljonodbkkckabDoorPRnd
set_option linter.unusedVariables false
set_option linter.unusedSimpArgs false
set_option maxHeartbeats 4000000
set_option maxRecDepth 100000
namespace Go.Proofs.YteljonodbkkckabDoor.Av
open Go Go.Proofs
def sg (b : Bool) (x : Int) : Int := if b = true then x else 0 - x
theorem ratio_full (n num den m : Int) (hf : fit n = true) (hm : m = 1 ∨ m = 2 ∨ m = 3) (hd : den ≠ 0) :
    ratioR n num den m = (if rq m (absZ n * absZ num / absZ den) (absZ n * absZ num % absZ den) (absZ den) > 1125899906842624 then (0, 13) else (sg (plus n num den) (rq m (absZ n * absZ num / absZ den) (absZ n * absZ num % absZ den) (absZ den)), 0)) := by
  unfold ratioR sg
  rw [if_neg (by rw [hf]; decide), if_neg (fun h => h hm), if_neg hd]
/-- the remainder bears the sign of the product -/
theorem rem_eq (n num den : Int) (hd : den ≠ 0) : n * num - sg (plus n num den) (absZ n * absZ num / absZ den) * den = (if decide (n < 0) = decide (num < 0) then absZ n * absZ num % absZ den else 0 - absZ n * absZ num % absZ den) ∧
    (n * num = absZ n * absZ num ∨ n * num = 0 - absZ n * absZ num) := by
  have hA : n * num = if decide (n < 0) = decide (num < 0) then absZ n * absZ num else 0 - absZ n * absZ num := by
    unfold absZ
    by_cases h1 : n < 0
    · by_cases h2 : num < 0
      · rw [if_pos h1, if_pos h2, if_pos (by simp [h1, h2]), Int.zero_sub, Int.zero_sub, Int.neg_mul_neg]
      · rw [if_pos h1, if_neg h2, if_neg (by simp [h1, h2]), Int.zero_sub, Int.zero_sub, Int.neg_mul, Int.neg_neg]
    · by_cases h2 : num < 0
      · rw [if_neg h1, if_pos h2, if_neg (by simp [h1, h2]), Int.zero_sub, Int.zero_sub, Int.mul_neg, Int.neg_neg]
      · rw [if_neg h1, if_neg h2, if_pos (by simp [h1, h2])]
  have hB : ∀ q : Int, sg (plus n num den) q * den = if decide (n < 0) = decide (num < 0) then q * absZ den else 0 - q * absZ den := fun q => by
    unfold sg plus absZ
    by_cases h1 : n < 0 <;> by_cases h2 : num < 0 <;> by_cases h3 : den < 0 <;> simp [h1, h2, h3, Int.sub_mul, Int.mul_sub, Int.neg_mul, Int.mul_neg]
  have hq := Int.mul_ediv_add_emod (absZ n * absZ num) (absZ den)
  rw [Int.mul_comm] at hq
  rw [hB, hA]
  generalize absZ n * absZ num = A at *
  generalize A / absZ den * absZ den = t at *
  generalize A % absZ den = r at *
  constructor
  · split <;> omega
  · split
    · left; rfl
    · right; rfl
def tailR (n num den q : Int) (L : Option Bool) : Option Bool :=
  if q < (-1125899906842624 : Int) then some false else
  if q > (1125899906842624 : Int) then some false else
  if num ≥ (-4096 : Int) then
    if num ≤ (4096 : Int) then
      if den ≥ (-4096 : Int) then
        if den ≤ (4096 : Int) then
          if InR .i64 (n * num) then
            if InR .i64 (q * den) then
              if InR .i64 ((n * num) - (q * den)) then
                if InR .i64 (0 - ((n * num) - (q * den))) then
                  if InR .i64 (0 - den) then
                    if (if ((n * num) - (q * den)) < (0 - ((n * num) - (q * den))) then (0 - ((n * num) - (q * den))) else ((n * num) - (q * den))) ≥ (if den < (0 - den) then (0 - den) else den) then some false
                    else if ((n * num) - (q * den)) = (0 : Int) then L
                    else if (!((decide (((n * num) - (q * den)) < (0 : Int))) == (decide (n < (0 : Int))))) = (decide (num < (0 : Int))) then L else some false
                  else none
                else none
              else none
            else none
          else none
        else L
      else L
    else L
  else L
theorem tail_eq (n num den : Int) (hn : -1125899906842624 ≤ n ∧ n ≤ 1125899906842624) (hd : den ≠ 0) (hq : absZ n * absZ num / absZ den ≤ 1125899906842624) :
    tailR n num den (sg (plus n num den) (absZ n * absZ num / absZ den)) (some true) = some true := by
  have hA0 : 0 ≤ absZ n * absZ num := Int.mul_nonneg (absZ_nn n) (absZ_nn num)
  have q0 : 0 ≤ absZ n * absZ num / absZ den := Int.ediv_nonneg hA0 (absZ_nn den)
  have hD : 0 < absZ den := by unfold absZ; split <;> omega
  have r0 : 0 ≤ absZ n * absZ num % absZ den := Int.emod_nonneg _ (by omega)
  have r1 : absZ n * absZ num % absZ den < absZ den := Int.emod_lt_of_pos _ hD
  obtain ⟨e1, e2⟩ := rem_eq n num den hd
  have hb : -1125899906842624 ≤ sg (plus n num den) (absZ n * absZ num / absZ den) ∧ sg (plus n num den) (absZ n * absZ num / absZ den) ≤ 1125899906842624 := by
    unfold sg; split <;> omega
  have hAn : absZ n * absZ num = 0 → absZ n * absZ num % absZ den = 0 := fun h => by rw [h, Int.zero_emod]
  have hz : n = 0 ∨ num = 0 → absZ n * absZ num = 0 := fun h => by
    rcases h with h | h
    · subst h; simp [absZ]
    · subst h; simp [absZ]
  generalize sg (plus n num den) (absZ n * absZ num / absZ den) = q at *
  unfold tailR
  rw [if_neg (by omega), if_neg (by omega)]
  by_cases h1 : num ≥ -4096
  case neg => rw [if_neg h1]
  rw [if_pos h1]
  by_cases h2 : num ≤ 4096
  case neg => rw [if_neg h2]
  rw [if_pos h2]
  by_cases h3 : den ≥ -4096
  case neg => rw [if_neg h3]
  rw [if_pos h3]
  by_cases h4 : den ≤ 4096
  case neg => rw [if_neg h4]
  rw [if_pos h4]
  have hN : absZ n ≤ 1125899906842624 := by unfold absZ; split <;> omega
  have hM : absZ num ≤ 4096 := by unfold absZ; split <;> omega
  have hDd : absZ den ≤ 4096 := by unfold absZ; split <;> omega
  have hA := mul_bnd (absZ_nn n) hN (absZ_nn num) hM (by omega)
  have hDe : (if den < (0 - den) then (0 - den) else den) = absZ den := by
    unfold absZ
    by_cases h : den < 0
    · rw [if_pos (by omega), if_pos h]
    · rw [if_neg (by omega), if_neg h]
  rw [hDe]
  generalize absZ n * absZ num = A at *
  generalize A % absZ den = r at *
  generalize n * num = X at *
  generalize q * den = Y at *
  have hR : X - Y = r ∨ X - Y = 0 - r := by
    rw [e1]; split
    · left; rfl
    · right; rfl
  refine guard_i (inR_i64.2 (by omega)) (guard_i (inR_i64.2 (by omega)) (guard_i (inR_i64.2 (by omega)) (guard_i (inR_i64.2 (by omega)) (guard_i (inR_i64.2 (by omega)) (ite_f (by split <;> omega) ?_)))))
  by_cases hr : X - Y = 0
  · exact ite_t hr rfl
  · refine ite_f hr (ite_t ?_ rfl)
    have hn0 : ¬ n = 0 := fun h => hr (by have := hAn (hz (.inl h)); omega)
    have hu0 : ¬ num = 0 := fun h => hr (by have := hAn (hz (.inr h)); omega)
    by_cases c1 : n < 0 <;> by_cases c2 : num < 0 <;> simp only [c1, c2, decide_true, decide_false, if_true, Bool.true_eq_false, Bool.false_eq_true, if_false] at e1 ⊢ <;> rw [e1]
    · rw [decide_eq_false (by omega)]; rfl
    · rw [decide_eq_true (by omega)]; rfl
    · rw [decide_eq_true (by omega)]; rfl
    · rw [decide_eq_false (by omega)]; rfl
theorem rq_ge (m q r D : Int) : q ≤ rq m q r D := by
  unfold rq
  repeat' split
  all_goals omega
theorem rq_two (q r D : Int) : rq 2 q r D = if r > 0 then q + 1 else q := rfl
theorem rq_one (q r D : Int) : rq 1 q r D = q := rfl
theorem rq_three (q r D : Int) (h0 : 0 ≤ r) (h1 : r < D) : rq 3 q r D = q ∨ rq 3 q r D = rq 2 q r D := by
  rw [rq_two]
  have e : rq 3 q r D = if r > D - r then q + 1 else if r = D - r then (if q % 2 = 1 then q + 1 else q) else q := rfl
  rw [e]
  repeat' split
  all_goals omega
theorem tollwaylaw03_MoneyRounds_true (n num den : Int) (hn : InR .i64 n) (hu : InR .i64 num) (hd : InR .i64 den) : tollwaylaw03_MoneyRounds n num den = some true := by
  have hn := inR_i64.1 hn
  have hu := inR_i64.1 hu
  have hd := inR_i64.1 hd
  unfold tollwaylaw03_MoneyRounds
  by_cases x1 : n < -1125899906842624
  · exact ite_t x1 (bind_i (v := true) rfl rfl)
  rw [if_neg x1]
  by_cases x2 : n > 1125899906842624
  · exact ite_t x2 (bind_i (v := true) rfl rfl)
  rw [if_neg x2]
  by_cases x3 : num = -9223372036854775808
  · exact ite_t x3 (bind_i (v := true) rfl rfl)
  rw [if_neg x3]
  by_cases x4 : den = -9223372036854775808
  · exact ite_t x4 (bind_i (v := true) rfl rfl)
  rw [if_neg x4]
  by_cases x5 : den = 0
  · exact ite_t x5 (bind_i (v := true) rfl rfl)
  rw [if_neg x5]
  have hf : fit n = true := fit_iff.2 (by omega)
  have f1 := ratio_full n num den 1 hf (by omega) x5
  have f2 := ratio_full n num den 2 hf (by omega) x5
  have f3 := ratio_full n num den 3 hf (by omega) x5
  have T := tail_eq n num den (by omega) x5
  rw [ratio_eq n num den 1 (by omega) (by omega) (by omega), ratio_eq n num den 2 (by omega) (by omega) (by omega), ratio_eq n num den 3 (by omega) (by omega) (by omega)]
  simp only [Option.bind_some, loop43 n num den (by omega) (by omega) (by omega)]
  rw [f1, f2, f3]
  have hA0 : 0 ≤ absZ n * absZ num := Int.mul_nonneg (absZ_nn n) (absZ_nn num)
  have q0 : 0 ≤ absZ n * absZ num / absZ den := Int.ediv_nonneg hA0 (absZ_nn den)
  have hD : 0 < absZ den := by unfold absZ; split <;> omega
  have r0 : 0 ≤ absZ n * absZ num % absZ den := Int.emod_nonneg _ (by omega)
  have r1 : absZ n * absZ num % absZ den < absZ den := Int.emod_lt_of_pos _ hD
  clear f1 f2 f3
  generalize absZ n * absZ num / absZ den = q at *
  generalize absZ n * absZ num % absZ den = r at *
  generalize absZ den = D at *
  have g2 := rq_ge 2 q r D
  have g3 := rq_ge 3 q r D
  have g4 := rq_three q r D r0 r1
  have g5 : rq 2 q r D = q ∨ rq 2 q r D = q + 1 := by rw [rq_two]; split <;> omega
  rw [rq_one]
  generalize rq 2 q r D = q2 at *
  generalize rq 3 q r D = q3 at *
  by_cases hq : q > 1125899906842624
  · rw [if_pos hq, if_pos (show q2 > 1125899906842624 by omega), if_pos (show q3 > 1125899906842624 by omega)]
    exact ite_f (by decide) (ite_t rfl (ite_t rfl (ite_t rfl (bind_i (v := true) rfl rfl))))
  have T := T (by omega)
  rw [if_neg hq]
  by_cases h18 : q2 > 1125899906842624
  · rw [if_pos h18]
    exact ite_t rfl (ite_f (by decide) T)
  rw [if_neg h18, if_neg (show ¬ q3 > 1125899906842624 by omega)]
  have hs : ∀ x : Int, sg (plus n num den) x = x ∨ sg (plus n num den) x = 0 - x := fun x => by
    unfold sg; split
    · left; rfl
    · right; rfl
  have hs2 : sg (plus n num den) q2 = sg (plus n num den) q ∨ sg (plus n num den) q2 = sg (plus n num den) q + 1 ∨ sg (plus n num den) q2 = sg (plus n num den) q - 1 := by
    unfold sg; split <;> omega
  have hsb : -1125899906842624 ≤ sg (plus n num den) q ∧ sg (plus n num den) q ≤ 1125899906842624 := by
    unfold sg; split <;> omega
  refine ite_t rfl (ite_t rfl (guard_i (inR_i64.2 (by dsimp only; omega)) (ite_f (by dsimp only; omega) (guard_i (inR_i64.2 (by dsimp only; omega)) (ite_f (by dsimp only; omega) ?_)))))
  rcases g4 with g4 | g4
  · rw [g4]
    exact ite_t rfl (ite_t rfl T)
  · rw [g4]
    by_cases heq : sg (plus n num den) q2 = sg (plus n num den) q
    · exact ite_t heq (ite_t rfl T)
    · exact ite_f heq (ite_t rfl (ite_t rfl T))
end Go.Proofs.YteljonodbkkckabDoor.Av
