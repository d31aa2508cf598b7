/- Discounts: the law DiscountNoBetter. -/
import Derived.Test.YtabjlmlfmafllaaPDs3
import Derived.Test.YtabjlmlfmafllaaK5
set_option linter.unusedVariables false
set_option linter.unusedSimpArgs false
set_option maxHeartbeats 1000000
namespace Go.Proofs.Ytabjlmlfmafllaa.Av
open Go Go.Proofs
/-! ### no better one -/
theorem conf_false {l : List Tapi_Discount} {k i : Nat} (h : grpR l i = [] ∨ grpR l i ≠ grpR l k) : confR l k i = false := by
  unfold confR
  rcases h with h | h
  · by_cases e : grpR l k = []
    · simp [e]
    · simp [h, e]
  · have h2 : ¬ grpR l k = grpR l i := fun q => h q.symm
    simp [h2]
theorem nobetter_in (l : List Tapi_Discount) (cents : Int) (hc : 0 ≤ cents ∧ cents ≤ 1125899906842624) (hl : l.length ≤ 12) (d : List Nat) (hb : isBest l.length (confR l) (amtR l cents) cents d) (i : Nat) (hi : i < l.length) : ∀ n k : Nat, k + n = i →
    lp (tollwaylaw24_DiscountNoBetter_L70_step l cents (up d, gval (amtR l cents) cents d, 0) i (amtR l cents i)) k = some (.inr ())
  | 0, k, hk => lp_end (by unfold tollwaylaw24_DiscountNoBetter_L70_step; exact ite_f (by omega) rfl)
  | n + 1, k, hk => by
    have hkl : k < l.length := by omega
    have gi := List.getElem?_eq_getElem hi
    have gk := List.getElem?_eq_getElem hkl
    obtain ⟨ha, -, ha0, ha1, -⟩ := amtR_eq cents gk
    obtain ⟨-, -, hb0, hb1, -⟩ := amtR_eq cents gi
    have ei : grpR l i = l[i].Group := by unfold grpR; rw [gi]
    have ek : grpR l k = l[k].Group := by unfold grpR; rw [gk]
    have hpair : confR l k i = false → ¬ (amtR l cents i + amtR l cents k > gval (amtR l cents) cents d ∧ gval (amtR l cents) cents d < cents) := by
      rintro hcf ⟨h1, h2⟩
      have hg : GoodC l.length (confR l) [k, i] := ⟨by simp; omega, fun x hx => by simp at hx; rcases hx with rfl | rfl <;> omega, by simp [hcf]⟩
      have := (nb_iff.1 (hb.2 _ hg)).1
      simp only [gval, gsum] at this h1 h2
      omega
    have hnext : InR .i64 ((k : Int) + 1) := inR_i64.2 (by omega)
    have rest : confR l k i = false → ((discount_Amount l[k] cents).bind fun r101 =>
      if InR .i64 (amtR l cents i + r101) then
        if (amtR l cents i + r101) > gval (amtR l cents) cents d then
          if gval (amtR l cents) cents d < cents then some (Sum.inr (Sum.inl ()))
          else if InR .i64 ((k : Int) + 1) then some (Sum.inl (k + 1)) else none
        else if InR .i64 ((k : Int) + 1) then some (Sum.inl (k + 1)) else none
      else none : Option (Nat ⊕ (Unit ⊕ Unit))) = some (.inl (k + 1)) := by
      intro hcf
      have hp := hpair hcf
      refine bind_i ha (guard_i (inR_i64.2 (by omega)) ?_)
      by_cases h1 : amtR l cents i + amtR l cents k > gval (amtR l cents) cents d
      · exact ite_t h1 (ite_f (fun h2 => hp ⟨h1, h2⟩) (guard_i hnext rfl))
      · exact ite_f h1 (guard_i hnext rfl)
    rw [lp_go (s' := k + 1) (by
      unfold tollwaylaw24_DiscountNoBetter_L70_step
      refine ite_t (by omega) (bind_i gi ?_)
      by_cases h0 : l[i].Group = []
      · exact ite_t h0 (bind_i gk (rest (conf_false (.inl (by rw [ei]; exact h0)))))
      · refine ite_f h0 (bind_i gk ?_)
        by_cases h1 : l[i].Group = l[k].Group
        · exact ite_t h1 (guard_i hnext rfl)
        · exact ite_f h1 (rest (conf_false (.inr (by rw [ei, ek]; exact h1)))))]
    exact nobetter_in l cents hc hl d hb i hi n (k + 1) (by omega)
theorem nobetter_out (l : List Tapi_Discount) (cents : Int) (hc : 0 ≤ cents ∧ cents ≤ 1125899906842624) (hl : l.length ≤ 12) (d : List Nat) (hb : isBest l.length (confR l) (amtR l cents) cents d) : ∀ n i : Nat, i + n = l.length →
    lp (tollwaylaw24_DiscountNoBetter_L7_step l cents (up d, gval (amtR l cents) cents d, 0)) i = some (.inr ())
  | 0, i, hi => lp_end (by unfold tollwaylaw24_DiscountNoBetter_L7_step; exact ite_f (by omega) rfl)
  | n + 1, i, hi => by
    have hil : i < l.length := by omega
    have gi := List.getElem?_eq_getElem hil
    obtain ⟨ha, -, ha0, ha1, ha2⟩ := amtR_eq cents gi
    have hle : amtR l cents i ≤ gval (amtR l cents) cents d := by
      have hg : GoodC l.length (confR l) [i] := ⟨by simp, fun x hx => by simp at hx; subst hx; exact hil, by simp⟩
      have := (nb_iff.1 (hb.2 _ hg)).1
      have h2 := ha2 hc.1
      have e : gval (amtR l cents) cents [i] = amtR l cents i := by
        have hq : ¬ (amtR l cents i + 0 > cents) := by omega
        exact (if_neg hq).trans (Int.add_zero _)
      rw [e] at this
      exact this
    rw [lp_go (s' := i + 1) (by
      unfold tollwaylaw24_DiscountNoBetter_L7_step
      exact ite_t (by omega) (bind_i gi (bind_i ha (ite_f (by dsimp only; omega) (bind_i (nobetter_in l cents hc hl d hb i hil i 0 (by omega)) (guard_i (inR_i64.2 (by omega)) rfl))))))]
    exact nobetter_out l cents hc hl d hb n (i + 1) (by omega)
theorem tollwaylaw24_DiscountNoBetter_true (l : List Tapi_Discount) (cents : Int) {p q : Prop} (hw : l.length ≤ maxLen ∧ p) (_ : q) : tollwaylaw24_DiscountNoBetter l cents = some true := by
  obtain ⟨b, hb, -⟩ := few_tot l hw.1
  unfold tollwaylaw24_DiscountNoBetter
  refine bind_i hb ?_
  cases b with
  | false => exact ite_f (by decide) (bind_i rfl rfl)
  | true =>
    refine ite_t rfl ?_
    rcases both_eq l cents with ⟨d, -, hl, hc, hbest, h1, -⟩ | ⟨e, he, h1, -, -⟩
    · exact bind_i h1 (ite_t rfl (bind_i (nobetter_out l cents hc hl d hbest l.length 0 (by omega)) (bind_i rfl rfl)))
    · exact bind_i h1 (ite_f he (bind_i rfl rfl))
end Go.Proofs.Ytabjlmlfmafllaa.Av
