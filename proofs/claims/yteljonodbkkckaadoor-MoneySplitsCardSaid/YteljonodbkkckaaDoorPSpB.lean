/- What money.Split computes. -/
import Derived.Test.YteljonodbkkckaaDoorPSpA
import Derived.Test.YteljonodbkkckaaDoorPRat
import Derived.Test.YteljonodbkkckaaDoorPDivC
import Derived.Test.YteljonodbkkckaaDoorES
set_option linter.unusedVariables false
set_option linter.unusedSimpArgs false
namespace Go.Proofs.YteljonodbkkckaaDoor.Av
open Go Go.Proofs
theorem sp_take_sum (l : List Int) (k : Nat) (x : Int) (h : l[k]? = some x) : (l.take (k + 1)).sum = (l.take k).sum + x := by
  rw [List.take_add_one, h]; simp [List.sum_append]
theorem sp_take_le (l : List Int) (h : ∀ x ∈ l, 0 ≤ x) (k : Nat) : (l.take k).sum ≤ l.sum := by
  have e : l.sum = (l.take k).sum + (l.drop k).sum := by rw [← List.sum_append, List.take_append_drop]
  have := sp_sum_nonneg (l.drop k) (fun x hx => h x (List.mem_of_mem_drop hx))
  omega
theorem sp_get_le (l : List Int) (h : ∀ x ∈ l, 0 ≤ x) (k : Nat) (x : Int) (hx : l[k]? = some x) : x ≤ l.sum := by
  have := sp_take_sum l k x hx
  have := sp_take_le l h (k + 1)
  have := sp_sum_nonneg (l.take k) (fun x hx => h x (List.mem_of_mem_take hx))
  omega
/-- a loop by what holds in it -/
theorem lp_inv {σ ρ : Type} {step : σ → Option (σ ⊕ ρ)} (I : σ → Prop) (m : σ → Nat) (Q : ρ → Prop)
    (h : ∀ s, I s → (∃ s', step s = some (.inl s') ∧ I s' ∧ m s' < m s) ∨ (∃ r, step s = some (.inr r) ∧ Q r)) (s : σ) (hs : I s) : ∃ r, lp step s = some r ∧ Q r := by
  generalize hn : m s = n
  induction n using Nat.strongRecOn generalizing s with
  | ind n ih =>
    rcases h s hs with ⟨s', h1, h2, h3⟩ | ⟨r, h1, h2⟩
    · rw [lp_go h1]; exact ih _ (by omega) s' h2 rfl
    · exact ⟨r, lp_end h1, h2⟩
def wok (ws : List Int) : Prop := (∀ w ∈ ws, 0 ≤ w) ∧ ws.sum ≤ 1125899906842624
theorem split_L6 (a : Int) (ws : List Int) (hl : ws.length ≤ 1024) : ∃ r, lp (money_Split_L6_step a ws) (0, 0) = some r ∧ ((r = .inl () ∧ ¬ wok ws) ∨ (r = .inr ws.sum ∧ wok ws)) := by
  refine lp_inv (fun s : Int × Nat => s.2 ≤ ws.length ∧ s.1 = (ws.take s.2).sum ∧ (∀ w ∈ ws.take s.2, 0 ≤ w) ∧ 0 ≤ s.1 ∧ s.1 ≤ 1125899906842624) (fun s => ws.length - s.2) _ ?_ _ ⟨Nat.zero_le _, by simp, by simp, by decide, by decide⟩
  rintro ⟨v, k⟩ ⟨h1, h2, h3, h4, h5⟩
  dsimp only at h1 h2 h3 h4 h5
  unfold money_Split_L6_step
  dsimp only
  by_cases hk : k < ws.length
  · obtain ⟨x, hx⟩ : ∃ x, ws[k]? = some x := ⟨_, List.getElem?_eq_getElem hk⟩
    rw [if_pos (show ((k : Int) < (ws.length : Int)) by omega), hx, Option.bind_some]
    have hm : x ∈ ws := List.mem_of_getElem? hx
    have hsum := sp_take_sum ws k x hx
    by_cases n0 : x < 0
    · rw [if_pos n0]
      exact .inr ⟨_, rfl, .inl ⟨rfl, fun h => by have := h.1 x hm; omega⟩⟩
    · rw [if_neg n0, if_pos (inR_i64.2 (by omega))]
      by_cases n1 : x > 1125899906842624 - v
      · rw [if_pos n1]
        refine .inr ⟨_, rfl, .inl ⟨rfl, fun h => ?_⟩⟩
        have := sp_take_le ws h.1 (k + 1)
        have := h.2
        omega
      · rw [if_neg n1, if_pos (inR_i64.2 (by omega)), if_pos (inR_i64.2 (by omega))]
        refine .inl ⟨_, rfl, ⟨hk, by rw [hsum, h2], ?_, by dsimp only; omega, by dsimp only; omega⟩, by dsimp only; omega⟩
        intro w hw
        rw [List.take_add_one, hx] at hw
        simp only [Option.toList_some, List.mem_append, List.mem_singleton] at hw
        rcases hw with hw | rfl
        · exact h3 w hw
        · omega
  · rw [if_neg (show ¬ ((k : Int) < (ws.length : Int)) by omega)]
    have : ws.take k = ws := List.take_of_length_le (by omega)
    rw [this] at h2 h3
    exact .inr ⟨_, rfl, .inr ⟨by rw [h2], h3, by omega⟩⟩
theorem sp_div (a w W : Int) (ha : 0 ≤ a ∧ a ≤ 1125899906842624) (hw : 0 ≤ w ∧ w ≤ W) (hW : 0 < W ∧ W ≤ 1125899906842624) :
    ((InR .u64 a ∧ InR .u64 w ∧ InR .u64 W) ∧ ∃ r, math_bits_Mul64 a w = some r ∧ math_bits_Div64 r.1 r.2 W = some (a * w / W, a * w % W)) ∧ 0 ≤ a * w / W ∧ a * w / W ≤ 1125899906842624 := by
  have p0 : 0 ≤ a * w := Int.mul_nonneg ha.1 hw.1
  have p1 : a * w ≤ 1125899906842624 * W := Int.le_trans (Int.mul_le_mul_of_nonneg_right ha.2 hw.1) (Int.mul_le_mul_of_nonneg_left hw.2 (by decide))
  refine ⟨⟨⟨inR_u64.2 (by omega), inR_u64.2 (by omega), inR_u64.2 (by omega)⟩, _, mul64_eq a w (by omega) (by omega), ?_⟩, ?_, ?_⟩
  · generalize a * w = p at p0 p1 ⊢
    rw [div64_eq _ _ _ (by constructor <;> omega) (by omega) (by omega)]
    rw [show p / 18446744073709551616 * 18446744073709551616 + p % 18446744073709551616 = p by omega]
  · exact Int.ediv_nonneg p0 (by omega)
  · exact Int.ediv_le_of_le_mul hW.1 p1
theorem split_L25 (a W : Int) (ws : List Int) (hl : ws.length ≤ 1024) (ha : 0 ≤ a ∧ a ≤ 1125899906842624) (hW : 0 < W ∧ W ≤ 1125899906842624) (hws : ∀ w ∈ ws, 0 ≤ w ∧ w ≤ W) :
    lp (money_Split_L25_step a ws W) (0, List.replicate ws.length 0, List.replicate ws.length 0) = some (ws.map (fun w => a * w / W), ws.map (fun w => a * w % W)) := by
  have key := lp_inv (step := money_Split_L25_step a ws W) (fun s : Nat × List Int × List Int => s.1 ≤ ws.length ∧ s.2.1.length = ws.length ∧ s.2.2.length = ws.length ∧
      (∀ (i : Nat) w, i < s.1 → ws[i]? = some w → s.2.1[i]? = some (a * w / W)) ∧ (∀ (i : Nat) w, i < s.1 → ws[i]? = some w → s.2.2[i]? = some (a * w % W))) (fun s => ws.length - s.1)
    (fun r => r = (ws.map (fun w => a * w / W), ws.map (fun w => a * w % W))) ?_ (0, List.replicate ws.length 0, List.replicate ws.length 0) ⟨Nat.zero_le _, by simp, by simp, fun _ _ h => by simp at h, fun _ _ h => by simp at h⟩
  · obtain ⟨r, h, rfl⟩ := key; exact h
  rintro ⟨k, b0, b1⟩ ⟨h1, h2, h3, h4, h5⟩
  dsimp only at h1 h2 h3 h4 h5
  unfold money_Split_L25_step
  dsimp only
  by_cases hk : k < ws.length
  · obtain ⟨x, hx⟩ : ∃ x, ws[k]? = some x := ⟨_, List.getElem?_eq_getElem hk⟩
    have hm := hws x (List.mem_of_getElem? hx)
    obtain ⟨⟨⟨i1, i2, i3⟩, r, hr1, hr2⟩, q0, q1⟩ := sp_div a x W ha hm hW
    rw [if_pos (show ((k : Int) < (ws.length : Int)) by omega), hx, Option.bind_some, if_pos i1, if_pos i2, hr1, Option.bind_some, if_pos i3, hr2, Option.bind_some]
    dsimp only
    rw [if_pos (inR_i64.2 (by omega)), List.getElem?_eq_getElem (by omega : k < b0.length), Option.bind_some, List.getElem?_eq_getElem (by omega : k < b1.length), Option.bind_some, if_pos (inR_i64.2 (by omega))]
    refine .inl ⟨_, rfl, ⟨hk, by simp [h2], by simp [h3], ?_, ?_⟩, by dsimp only; omega⟩
    · intro i w hi hw
      dsimp only
      rw [List.getElem?_set]
      by_cases e : k = i
      · subst e
        rw [hx] at hw
        obtain rfl := Option.some.inj hw
        rw [if_pos rfl, if_pos (by omega)]
      · rw [if_neg e]; exact h4 i w (by dsimp only at hi; omega) hw
    · intro i w hi hw
      dsimp only
      rw [List.getElem?_set]
      by_cases e : k = i
      · subst e
        rw [hx] at hw
        obtain rfl := Option.some.inj hw
        rw [if_pos rfl, if_pos (by omega)]
      · rw [if_neg e]; exact h5 i w (by dsimp only at hi; omega) hw
  · rw [if_neg (show ¬ ((k : Int) < (ws.length : Int)) by omega)]
    refine .inr ⟨_, rfl, ?_⟩
    have ek : k = ws.length := by omega
    subst ek
    congr 1
    · apply List.ext_getElem?
      intro i
      rw [List.getElem?_map]
      cases hw : ws[i]? with
      | none =>
        have := List.getElem?_eq_none_iff.1 hw
        rw [List.getElem?_eq_none (by omega)]; rfl
      | some w => exact h4 i w (List.getElem?_eq_some_iff.1 hw).1 hw
    · apply List.ext_getElem?
      intro i
      rw [List.getElem?_map]
      cases hw : ws[i]? with
      | none =>
        have := List.getElem?_eq_none_iff.1 hw
        rw [List.getElem?_eq_none (by omega)]; rfl
      | some w => exact h5 i w (List.getElem?_eq_some_iff.1 hw).1 hw
end Go.Proofs.YteljonodbkkckaaDoor.Av
