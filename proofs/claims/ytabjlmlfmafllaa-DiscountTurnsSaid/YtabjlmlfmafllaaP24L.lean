/- Discounts: CheckAll answers alike. -/
import Derived.Test.YtabjlmlfmafllaaP24B
import Derived.Test.YtabjlmlfmafllaaD2
set_option linter.unusedVariables false
set_option maxHeartbeats 4000000
namespace Go.Proofs.Ytabjlmlfmafllaa.Av
open Go Go.Proofs
theorem few_tot (l : List Tapi_Discount) (hl : l.length ≤ 9223372036854775807) : ∃ b, tollwaylaw24_few l = some b ∧ (b = true → l.length ≤ 14) := by
  unfold tollwaylaw24_few
  obtain ⟨r, hr, _⟩ := lp_ex2 (step := tollwaylaw24_few_L1_step l) l.length (fun k p => p = k) (fun _ => True) (fun k p hk hi => by
    subst hi
    obtain ⟨b, hb⟩ := short_tot l[p]
    unfold tollwaylaw24_few_L1_step
    cases b with
    | true => exact .inl ⟨_, ite_t (by omega) (bind_i (List.getElem?_eq_getElem hk) (bind_i hb (ite_t rfl (guard_i (inR_i64.2 (by omega)) rfl)))), rfl⟩
    | false => exact .inr ⟨_, ite_t (by omega) (bind_i (List.getElem?_eq_getElem hk) (bind_i hb (ite_f (by decide) rfl))), trivial⟩) (fun p hi => by
    subst hi
    unfold tollwaylaw24_few_L1_step
    exact ⟨_, ite_f (by omega) rfl, trivial⟩) l.length 0 0 (by omega) rfl
  rw [hr, Option.bind_some]
  cases r with
  | inl a => exact ⟨false, rfl, fun h => by cases h⟩
  | inr a => exact ⟨_, rfl, fun h => by have := of_decide_eq_true h; omega⟩
def toU : Int ⊕ Unit → Unit ⊕ Unit
  | .inl _ => .inl ()
  | .inr _ => .inr ()
theorem dup_both (l : List Tapi_Discount) (hl : l.length ≤ 12) (k : Nat) (x : Tapi_Discount) (hx : l[k]? = some x) : ∀ (n j : Nat), j + n = k →
    ∃ r, lp (discount_CheckAll_L31_step l k x) j = some r ∧ lp (tollwayref24_CheckAll_L31_step l k) j = some (toU r) ∧ ∀ i, r = .inl i → i ≥ 0
  | 0, j, hj => by
    have hj : j = k := by omega
    subst hj
    have hk := get_lt hx
    refine ⟨.inr (), lp_end ?_, lp_end ?_, nofun⟩
    · unfold discount_CheckAll_L31_step
      exact ite_f (by rw [List.length_take]; omega) rfl
    · unfold tollwayref24_CheckAll_L31_step
      exact ite_f (by omega) rfl
  | n + 1, j, hj => by
    have hk := get_lt hx
    have hy := List.getElem?_eq_getElem (l := l) (i := j) (by omega)
    have hyt : (List.take k l)[j]? = some l[j] := by rw [List.getElem?_take, if_pos (by omega)]; exact hy
    by_cases he : l[j].Name = x.Name
    · refine ⟨.inl (j : Int), lp_end ?_, lp_end ?_, fun i hi => by cases hi; omega⟩
      · unfold discount_CheckAll_L31_step
        exact ite_t (by rw [List.length_take]; omega) (bind_i hyt (ite_t he rfl))
      · unfold tollwayref24_CheckAll_L31_step
        exact ite_t (by omega) (bind_i hy (bind_i hx (ite_t he rfl)))
    · have h1 : discount_CheckAll_L31_step l k x j = some (.inl (j + 1)) := by
        unfold discount_CheckAll_L31_step
        exact ite_t (by rw [List.length_take]; omega) (bind_i hyt (ite_f he (guard_i (inR_i64.2 (by omega)) rfl)))
      have h2 : tollwayref24_CheckAll_L31_step l k j = some (.inl (j + 1)) := by
        unfold tollwayref24_CheckAll_L31_step
        exact ite_t (by omega) (bind_i hy (bind_i hx (ite_f he (guard_i (inR_i64.2 (by omega)) rfl))))
      rw [lp_go h1, lp_go h2]
      exact dup_both l hl k x hx n (j + 1) (by omega)
theorem checkAll_step (l : List Tapi_Discount) (hl : l.length ≤ 12) (k : Nat) : ∃ r, discount_CheckAll_L2_step l k = some r ∧ tollwayref24_CheckAll_L2_step l k = some r ∧ (k < l.length → r = .inl (k + 1) ∨ ∃ a, r = .inr a) ∧ (¬ k < l.length → ∃ a, r = .inr a) := by
  unfold discount_CheckAll_L2_step tollwayref24_CheckAll_L2_step
  by_cases hk : k < l.length
  · have hx := List.getElem?_eq_getElem hk
    obtain ⟨c, hc, _⟩ := check_tot l[k]
    have hki : (k : Int) < (l.length : Int) := by omega
    rw [hx]
    simp only [if_pos hki, Option.bind_some, check_eq, hc]
    by_cases h0 : c = 0
    · have hkl : k ≤ l.length := by omega
      simp only [if_pos h0, if_pos hkl]
      obtain ⟨r, h1, h2, h3⟩ := dup_both l hl k _ hx k 0 (by omega)
      rw [h1, h2]
      have hg : InR .i64 ((k : Int) + 1) := inR_i64.2 (by omega)
      cases r with
      | inl i => exact ⟨.inr (.inl 9), ite_t (h3 i rfl) rfl, rfl, fun _ => .inr ⟨_, rfl⟩, fun h => absurd hk h⟩
      | inr i =>
        refine ⟨.inl (k + 1), ?_, ?_, fun _ => .inl rfl, fun h => absurd hk h⟩
        · simp only [Option.bind_some, if_pos hg]
        · simp only [toU, Option.bind_some, if_pos hg]
    · simp only [if_neg h0]
      exact ⟨_, rfl, rfl, fun _ => .inr ⟨_, rfl⟩, fun h => absurd hk h⟩
  · rw [if_neg (by omega), if_neg (by omega)]
    exact ⟨_, rfl, rfl, fun h => absurd h hk, fun _ => ⟨_, rfl⟩⟩
theorem checkAll_eq (l : List Tapi_Discount) : ∃ c, discount_CheckAll l = some c ∧ tollwayref24_CheckAll l = some c ∧ (c = 0 → l.length ≤ 12) := by
  unfold discount_CheckAll tollwayref24_CheckAll
  by_cases hl : l.length > 12
  · rw [if_pos (by omega), if_pos (by omega)]; exact ⟨3, rfl, rfl, by omega⟩
  rw [if_neg (by omega), if_neg (by omega)]
  have e : discount_CheckAll_L2_step l = tollwayref24_CheckAll_L2_step l := funext fun k => by
    obtain ⟨r, h1, h2, _⟩ := checkAll_step l (by omega) k
    rw [h1, h2]
  rw [e]
  obtain ⟨r, hr, _⟩ := lp_ex2 (step := tollwayref24_CheckAll_L2_step l) l.length (fun k p => p = k) (fun _ => True) (fun k p hk hi => by
    subst hi
    obtain ⟨r, _, h2, h3, _⟩ := checkAll_step l (by omega) p
    rcases h3 hk with rfl | ⟨a, rfl⟩
    · exact .inl ⟨_, h2, rfl⟩
    · exact .inr ⟨_, h2, trivial⟩) (fun p hi => by
    subst hi
    obtain ⟨r, _, h2, _, h4⟩ := checkAll_step l (by omega) l.length
    obtain ⟨a, rfl⟩ := h4 (by omega)
    exact ⟨_, h2, trivial⟩) l.length 0 0 (by omega) rfl
  rw [hr]
  cases r with
  | inl a => exact ⟨a, rfl, rfl, by omega⟩
  | inr a => exact ⟨0, rfl, rfl, by omega⟩
end Go.Proofs.Ytabjlmlfmafllaa.Av
