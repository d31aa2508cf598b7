/- Trace: what facts, Detection and Passage give; the reference too. -/
import Derived.Test.YtalobodhbbkgdabDoorPTr1
import Derived.Test.YtalobodhbbkgdabDoorR6
set_option linter.unusedVariables false
set_option linter.unusedSimpArgs false
namespace Go.Proofs.YtalobodhbbkgdabDoor.Av
/-! ### the first element that fits -/
def fidx {α : Type} (p : α → Bool) : List α → Nat → Option Nat
  | [], _ => none
  | x :: l, k => if p x = true then some k else fidx p l (k + 1)
theorem fidx_some {α : Type} {p : α → Bool} : ∀ {l : List α} {k i : Nat}, fidx p l k = some i → k ≤ i ∧ ∃ x, l[i - k]? = some x ∧ p x = true
  | [], k, i, h => by cases h
  | x :: l, k, i, h => by
    unfold fidx at h
    by_cases hp : p x = true
    · rw [if_pos hp] at h
      obtain rfl := Option.some.inj h
      exact ⟨Nat.le_refl _, x, by simp, hp⟩
    · rw [if_neg hp] at h
      obtain ⟨h1, y, h2, h3⟩ := fidx_some h
      refine ⟨by omega, y, ?_, h3⟩
      rw [show i - k = (i - (k + 1)) + 1 by omega]
      simpa using h2
theorem fidx_any {α : Type} {p : α → Bool} : ∀ (l : List α) (k : Nat), (fidx p l k).isSome = l.any p
  | [], k => rfl
  | x :: l, k => by
    unfold fidx
    by_cases hp : p x = true
    · simp [hp]
    · rw [if_neg hp, fidx_any l]; simp [hp]
theorem lp_find {α ρ : Type} {l : List α} {step : Nat → Option (Nat ⊕ (ρ ⊕ Unit))} (p : α → Bool) (f : Nat → ρ)
    (hs : ∀ k x, l[k]? = some x → k < l.length → step k = some (if p x = true then .inr (.inl (f k)) else .inl (k + 1)))
    (he : step l.length = some (.inr (.inr ()))) : ∀ m k, k + m = l.length → lp step k = some (match fidx p (l.drop k) k with | some i => .inl (f i) | none => .inr ())
  | 0, k, hk => by
    have hk : k = l.length := by omega
    subst hk
    rw [lp_end he, List.drop_length]; rfl
  | m + 1, k, hk => by
    have hlt : k < l.length := by omega
    have h1 := hs k l[k] (List.getElem?_eq_getElem hlt) hlt
    rw [List.drop_eq_getElem_cons hlt]
    unfold fidx
    by_cases hp : p l[k] = true
    · rw [if_pos hp] at h1 ⊢
      exact lp_end h1
    · rw [if_neg hp] at h1 ⊢
      rw [lp_go h1]
      exact lp_find p f hs he m (k + 1) (by omega)
theorem lp_find0 {α ρ : Type} {l : List α} {step : Nat → Option (Nat ⊕ (ρ ⊕ Unit))} (p : α → Bool) (f : Nat → ρ)
    (hs : ∀ k x, l[k]? = some x → k < l.length → step k = some (if p x = true then .inr (.inl (f k)) else .inl (k + 1)))
    (he : step l.length = some (.inr (.inr ()))) : lp step 0 = some (match fidx p l 0 with | some i => .inl (f i) | none => .inr ()) := by
  have := lp_find p f hs he l.length 0 (by omega)
  simpa using this
/-! ### great -/
structure Fits (s : Tapi_State) : Prop where
  seen : s.Seen.length ≤ 120
  rej : s.Rejects.length ≤ 120
  pas : s.Result.Passages.length ≤ 120
  rrej : s.Result.Rejects.length ≤ 120
  trips : s.Result.Trips.length ≤ 120
  stays : s.Result.Stays.length ≤ 120
  chg : s.Result.Charges.length ≤ 120
  exc : s.Result.Exclusions.length ≤ 120
  done : s.Books.Done.length ≤ 120
  acc : s.Config.Accounts.length ≤ 30
  src : ∀ p ∈ s.Result.Passages, p.Sources.length ≤ 40
  stops : ∀ t ∈ s.Result.Trips, t.Stops.length ≤ 40
  lines : ∀ c ∈ s.Result.Charges, c.Lines.length ≤ 40
  own : ∀ a ∈ s.Config.Accounts, a.Owned.length ≤ 80
theorem lp_big {α : Type} {l : List α} {step : Nat → Option (Nat ⊕ (Unit ⊕ Unit))} (f : α → Nat) (b : Nat)
    (hs : ∀ k x, l[k]? = some x → k < l.length → step k = some (if decide (f x > b) = true then .inr (.inl ()) else .inl (k + 1)))
    (he : step l.length = some (.inr (.inr ()))) : lp step 0 = some (.inl ()) ∨ lp step 0 = some (.inr ()) ∧ ∀ x ∈ l, f x ≤ b := by
  rw [lp_find0 (fun x => decide (f x > b)) (fun _ => ()) hs he]
  cases h : fidx (fun x => decide (f x > b)) l 0 with
  | some i => left; rfl
  | none =>
    right
    refine ⟨rfl, ?_⟩
    have := fidx_any (p := fun x => decide (f x > b)) l 0
    rw [h] at this
    have h2 : l.any (fun x => decide (f x > b)) = false := this.symm
    rw [List.any_eq_false] at h2
    intro x hx
    have := h2 x hx
    simp only [decide_eq_true_eq] at this
    omega
theorem great_eq (s : Tapi_State) : tollwaylaw52_great s = some true ∨ tollwaylaw52_great s = some false ∧ Fits s := by
  unfold tollwaylaw52_great
  by_cases h1 : (s.Seen.length : Int) > 120
  · left; rw [if_pos h1]
  by_cases h2 : (s.Rejects.length : Int) > 120
  · left; rw [if_neg h1, if_pos h2]
  by_cases h3 : (s.Result.Passages.length : Int) > 120
  · left; rw [if_neg h1, if_neg h2, if_pos h3]
  by_cases h4 : (s.Result.Rejects.length : Int) > 120
  · left; rw [if_neg h1, if_neg h2, if_neg h3, if_pos h4]
  by_cases h5 : (s.Result.Trips.length : Int) > 120
  · left; rw [if_neg h1, if_neg h2, if_neg h3, if_neg h4, if_pos h5]
  by_cases h6 : (s.Result.Stays.length : Int) > 120
  · left; rw [if_neg h1, if_neg h2, if_neg h3, if_neg h4, if_neg h5, if_pos h6]
  by_cases h7 : (s.Result.Charges.length : Int) > 120
  · left; rw [if_neg h1, if_neg h2, if_neg h3, if_neg h4, if_neg h5, if_neg h6, if_pos h7]
  by_cases h8 : (s.Result.Exclusions.length : Int) > 120
  · left; rw [if_neg h1, if_neg h2, if_neg h3, if_neg h4, if_neg h5, if_neg h6, if_neg h7, if_pos h8]
  by_cases h9 : (s.Books.Done.length : Int) > 120
  · left; rw [if_neg h1, if_neg h2, if_neg h3, if_neg h4, if_neg h5, if_neg h6, if_neg h7, if_neg h8, if_pos h9]
  by_cases h10 : (s.Config.Accounts.length : Int) > 30
  · left; rw [if_neg h1, if_neg h2, if_neg h3, if_neg h4, if_neg h5, if_neg h6, if_neg h7, if_neg h8, if_neg h9, if_pos h10]
  rw [if_neg h1, if_neg h2, if_neg h3, if_neg h4, if_neg h5, if_neg h6, if_neg h7, if_neg h8, if_neg h9, if_neg h10]
  rcases lp_big (l := s.Result.Passages) (step := tollwaylaw52_great_L11_step s) (fun p => p.Sources.length) 40 (fun k x hx hk => by
      unfold tollwaylaw52_great_L11_step
      refine ite_t (by omega) (bind_i hx ?_)
      by_cases hc : x.Sources.length > 40
      · rw [decide_eq_true hc]; exact ite_t (by omega) rfl
      · rw [decide_eq_false hc]; exact ite_f (by omega) (guard_i (inR_i64.2 (by omega)) rfl)) (by unfold tollwaylaw52_great_L11_step; exact ite_f (by omega) rfl) with k1 | ⟨k1, e1⟩
  · left; rw [k1]; rfl
  rcases lp_big (l := s.Result.Trips) (step := tollwaylaw52_great_L22_step s) (fun p => p.Stops.length) 40 (fun k x hx hk => by
      unfold tollwaylaw52_great_L22_step
      refine ite_t (by omega) (bind_i hx ?_)
      by_cases hc : x.Stops.length > 40
      · rw [decide_eq_true hc]; exact ite_t (by omega) rfl
      · rw [decide_eq_false hc]; exact ite_f (by omega) (guard_i (inR_i64.2 (by omega)) rfl)) (by unfold tollwaylaw52_great_L22_step; exact ite_f (by omega) rfl) with k2 | ⟨k2, e2⟩
  · left; rw [k1, Option.bind_some]; dsimp only; rw [k2]; rfl
  rcases lp_big (l := s.Result.Charges) (step := tollwaylaw52_great_L33_step s) (fun p => p.Lines.length) 40 (fun k x hx hk => by
      unfold tollwaylaw52_great_L33_step
      refine ite_t (by omega) (bind_i hx ?_)
      by_cases hc : x.Lines.length > 40
      · rw [decide_eq_true hc]; exact ite_t (by omega) rfl
      · rw [decide_eq_false hc]; exact ite_f (by omega) (guard_i (inR_i64.2 (by omega)) rfl)) (by unfold tollwaylaw52_great_L33_step; exact ite_f (by omega) rfl) with k3 | ⟨k3, e3⟩
  · left; rw [k1, Option.bind_some]; dsimp only; rw [k2, Option.bind_some]; dsimp only; rw [k3]; rfl
  rcases lp_big (l := s.Config.Accounts) (step := tollwaylaw52_great_L44_step s) (fun p => p.Owned.length) 80 (fun k x hx hk => by
      unfold tollwaylaw52_great_L44_step
      refine ite_t (by omega) (bind_i hx ?_)
      by_cases hc : x.Owned.length > 80
      · rw [decide_eq_true hc]; exact ite_t (by omega) rfl
      · rw [decide_eq_false hc]; exact ite_f (by omega) (guard_i (inR_i64.2 (by omega)) rfl)) (by unfold tollwaylaw52_great_L44_step; exact ite_f (by omega) rfl) with k4 | ⟨k4, e4⟩
  · left; rw [k1, Option.bind_some]; dsimp only; rw [k2, Option.bind_some]; dsimp only; rw [k3, Option.bind_some]; dsimp only; rw [k4]; rfl
  right
  refine ⟨by rw [k1, Option.bind_some]; dsimp only; rw [k2, Option.bind_some]; dsimp only; rw [k3, Option.bind_some]; dsimp only; rw [k4]; rfl, ?_⟩
  exact ⟨by omega, by omega, by omega, by omega, by omega, by omega, by omega, by omega, by omega, by omega, e1, e2, e3, e4⟩
end Go.Proofs.YtalobodhbbkgdabDoor.Av
