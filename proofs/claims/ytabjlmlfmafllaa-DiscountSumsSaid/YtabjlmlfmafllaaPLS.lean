/- Discounts: the law DiscountSums. -/
import Derived.Test.YtabjlmlfmafllaaPDs4
import Derived.Test.YtabjlmlfmafllaaK4
set_option linter.unusedVariables false
set_option linter.unusedSimpArgs false
set_option maxHeartbeats 1000000
namespace Go.Proofs.Ytabjlmlfmafllaa.Av
open Go Go.Proofs
/-! ### the lines are less than nothing -/
theorem gsum_drop (l : List Tapi_Discount) (cents : Int) (c : List Nat) (k : Nat) (hk : k < c.length) : gsum (amtR l cents) (c.take k ++ c.drop (k + 1)) + amtR l cents c[k] = gsum (amtR l cents) c := by
  have e : c = c.take k ++ c[k] :: c.drop (k + 1) := by rw [List.getElem_cons_drop, List.take_append_drop]
  have h2 := congrArg (gsum (amtR l cents)) e
  rw [gsum_app] at h2 ⊢
  simp only [gsum] at h2
  omega
theorem vk_pos {l : List Tapi_Discount} {cents : Int} (hc : 0 ≤ cents ∧ cents ≤ 1125899906842624) {d : List Nat} (hb : isBest l.length (confR l) (amtR l cents) cents d) {k : Nat} (hk : k < d.length) : 0 < vk l cents d (k + 1) - vk l cents d k := by
  obtain ⟨g1, g2, g3, g4, g5, g6⟩ := vk_step (l := l) hc hk
  rcases (by omega : 0 < vk l cents d (k + 1) - vk l cents d k ∨ vk l cents d (k + 1) - vk l cents d k ≤ 0) with h | h
  · exact h
  · exfalso
    have h0 : vk l cents d (k + 1) = vk l cents d k := by omega
    have hs : (d.take k ++ d.drop (k + 1)).Sublist d := by
      have := List.Sublist.append (List.Sublist.refl (d.take k)) (List.drop_sublist_drop_left d (show k ≤ k + 1 by omega))
      rwa [List.take_append_drop] at this
    have hg := hb.1.sub hs
    have hnb := hb.2 _ hg
    have hlen : (d.take k ++ d.drop (k + 1)).length < d.length := by rw [List.length_append, List.length_take, List.length_drop]; omega
    have hsum := gsum_drop l cents d k hk
    have ha := amtR_nn l cents d[k]
    have hp := gsum_nn l cents (d.take k)
    have hr := gsum_nn l cents (d.drop (k + 1))
    have e2 : gsum (amtR l cents) (d.take k ++ d.drop (k + 1)) = gsum (amtR l cents) (d.take k) + gsum (amtR l cents) (d.drop (k + 1)) := gsum_app _ _
    have e3 : gsum (amtR l cents) (d.take (k + 1)) = gsum (amtR l cents) (d.take k) + amtR l cents d[k] := by
      rw [List.take_succ_eq_append_getElem hk, gsum_app]; simp [gsum]
    have hv : gval (amtR l cents) cents (d.take k ++ d.drop (k + 1)) = gval (amtR l cents) cents d := by
      unfold vk gval at h0
      unfold gval
      rw [e3] at h0
      rw [e2] at hsum ⊢
      rw [← hsum]
      generalize gsum (amtR l cents) (d.take k) = s at *
      generalize gsum (amtR l cents) (d.drop (k + 1)) = t at *
      generalize amtR l cents d[k] = a at *
      (repeat' split at h0) <;> (repeat' split) <;> omega
    unfold better at hnb
    rw [hv] at hnb
    simp [hlen] at hnb
    rw [List.length_append, List.length_take, List.length_drop] at hlen
    omega
theorem sums_loop (l : List Tapi_Discount) (cents : Int) (hc : 0 ≤ cents ∧ cents ≤ 1125899906842624) (hl : l.length ≤ 12) (d : List Nat) (hb : isBest l.length (confR l) (amtR l cents) cents d) (v : Int) : ∀ n k : Nat, k + n = d.length →
    lp (tollwaylaw24_DiscountSums_L12_step l cents (up d, v, 0) (linesR l cents d)) (0 - vk l cents d k, k) = some (.inr (0 - vk l cents d d.length))
  | 0, k, hk => by
    have hk : k = d.length := by omega
    subst hk
    exact lp_end (by unfold tollwaylaw24_DiscountSums_L12_step; exact ite_f (by rw [linesR_len]; omega) rfl)
  | n + 1, k, hk => by
    have hlt : k < d.length := by omega
    have hdl := asc_len hb.1.asc hb.1.lt
    obtain ⟨g1, g2, g3, g4, g5, g6⟩ := vk_step (l := l) hc hlt
    have hpos := vk_pos hc hb hlt
    have hxl := hb.1.lt d[k] (List.getElem_mem hlt)
    have gx := List.getElem?_eq_getElem hxl
    obtain ⟨ha, -, ha0, ha1, -⟩ := amtR_eq cents gx
    have hln : (linesR l cents d)[k]? = some (lineR l cents d k) := by
      unfold linesR; rw [List.getElem?_map, List.getElem?_range (by omega)]; rfl
    have en : (lineR l cents d k).Text = l[d[k]].Name := by
      unfold lineR nameR
      rw [List.getD_eq_getElem?_getD, List.getElem?_eq_getElem hlt, Option.getD_some, gx]
    have ec : (lineR l cents d k).Cents = 0 - (vk l cents d (k + 1) - vk l cents d k) := rfl
    have rest : (if (lineR l cents d k).Text = l[d[k]].Name then
        if (lineR l cents d k).Cents ≥ (0 : Int) then some (Sum.inr (Sum.inl ()))
        else (discount_Amount l[d[k]] cents).bind fun r68 =>
          if InR .i64 (0 - r68) then
            if (lineR l cents d k).Cents < (0 - r68) then some (Sum.inr (Sum.inl ()))
            else if InR .i64 ((0 - vk l cents d k) + (lineR l cents d k).Cents) then (if InR .i64 ((k : Int) + 1) then some (Sum.inl (((0 - vk l cents d k) + (lineR l cents d k).Cents), (k + 1))) else none) else none
          else none
        else some (Sum.inr (Sum.inl ())) : Option ((Int × Nat) ⊕ (Unit ⊕ Int))) = some (.inl (0 - vk l cents d (k + 1), k + 1)) := by
      rw [ec]
      refine ite_t en (ite_f (by omega) (bind_i ha (guard_i (inR_i64.2 (by omega)) (ite_f (by omega) (guard_i (inR_i64.2 (by omega)) (guard_i (inR_i64.2 (by omega)) ?_))))))
      rw [show 0 - vk l cents d k + (0 - (vk l cents d (k + 1) - vk l cents d k)) = 0 - vk l cents d (k + 1) by omega]
    rw [lp_go (s' := (0 - vk l cents d (k + 1), k + 1)) (by
      unfold tollwaylaw24_DiscountSums_L12_step
      refine ite_t (by rw [linesR_len]; omega) (bind_i (up_at hlt) (ite_f (by omega) (ite_f (by omega) ?_)))
      by_cases hk0 : (k : Int) > 0
      · have hk1 : k - 1 < d.length := by omega
        have hasc : d[k - 1] < d[k] := List.pairwise_iff_getElem.1 hb.1.asc (k - 1) k hk1 hlt (by omega)
        refine ite_t hk0 (guard_i (inR_i64.2 (by omega)) (guard_i (by omega) (bind_i (by rw [show Int.toNat ((k : Int) - 1) = k - 1 by omega]; exact up_at hk1) (ite_f (by omega) (bind_i hln (guard_i (Int.natCast_nonneg _) (bind_i (by rw [Int.toNat_natCast]; exact gx) rest)))))))
      · exact ite_f hk0 (bind_i hln (guard_i (Int.natCast_nonneg _) (bind_i (by rw [Int.toNat_natCast]; exact gx) rest))))]
    exact sums_loop l cents hc hl d hb v n (k + 1) (by omega)
theorem gval_bnd (l : List Tapi_Discount) (cents : Int) (hc : 0 ≤ cents) (c : List Nat) : 0 ≤ gval (amtR l cents) cents c ∧ gval (amtR l cents) cents c ≤ cents := by
  have := gsum_nn l cents c
  unfold gval
  split <;> omega
theorem tollwaylaw24_DiscountSums_true (l : List Tapi_Discount) (cents : Int) {p q : Prop} (hw : l.length ≤ maxLen ∧ p) (_ : q) : tollwaylaw24_DiscountSums l cents = some true := by
  obtain ⟨b, hb, -⟩ := few_tot l hw.1
  unfold tollwaylaw24_DiscountSums
  refine bind_i hb ?_
  cases b with
  | false => exact ite_f (by decide) (bind_i rfl rfl)
  | true =>
    refine ite_t rfl ?_
    rcases both_eq l cents with ⟨d, -, hl, hc, hbest, h1, h2⟩ | ⟨e, he, h1, h2, -⟩
    · have hdl := asc_len hbest.1.asc hbest.1.lt
      obtain ⟨k1, k2⟩ := lines_eq l cents hc d hbest.1.lt (by omega) _ h1 h2
      have hv := gval_bnd l cents hc.1 d
      have hs := sums_loop l cents hc hl d hbest (gval (amtR l cents) cents d) d.length 0 (by omega)
      rw [vk_zero l cents d hc.1, vk_all] at hs
      exact bind_i h1 (bind_i k1 (ite_t rfl (ite_t (by rw [linesR_len, up_len]) (ite_f (by dsimp only; omega) (ite_f (by dsimp only; omega) (bind_i hs (guard_i (inR_i64.2 (by dsimp only; omega)) (ite_t rfl (bind_i rfl rfl)))))))))
    · obtain ⟨k1, k2⟩ := lines_none l cents 0 e he h1 h2
      exact bind_i h1 (bind_i k1 (ite_f he (ite_t rfl (ite_t rfl (ite_t rfl (bind_i rfl rfl))))))
end Go.Proofs.Ytabjlmlfmafllaa.Av
