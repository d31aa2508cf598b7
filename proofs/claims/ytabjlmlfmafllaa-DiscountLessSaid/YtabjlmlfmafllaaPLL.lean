/- Discounts: the law DiscountLess. -/
import Derived.Test.YtabjlmlfmafllaaPLC
import Derived.Test.YtabjlmlfmafllaaK6
set_option linter.unusedVariables false
set_option linter.unusedSimpArgs false
set_option maxHeartbeats 1000000
namespace Go.Proofs.Ytabjlmlfmafllaa.Av
open Go Go.Proofs
theorem less_loop (l : List Tapi_Discount) (n : Int) (d : List Nat) (v e : Int) (r19 : List Int × Int × Int) (k : Nat) (hk : Int.tmod n (l.length : Int) = (k : Int)) (hlen : d.length ≤ 12) : ∀ m j : Nat, j + m = d.length →
    lp (tollwaylaw24_DiscountLess_L21_step l n (up d, v, e) r19) ((d.take j).any (fun x => decide (x = k)), j) = some (d.any fun x => decide (x = k))
  | 0, j, hj => by
    have hj : j = d.length := by omega
    subst hj
    rw [List.take_length]
    exact lp_end (by unfold tollwaylaw24_DiscountLess_L21_step; exact ite_f (by dsimp only; rw [up_len]; omega) rfl)
  | m + 1, j, hj => by
    have hlt : j < d.length := by omega
    have e1 : (d.take (j + 1)).any (fun x => decide (x = k)) = ((d.take j).any (fun x => decide (x = k)) || decide (d[j] = k)) := by
      rw [List.take_succ_eq_append_getElem hlt, List.any_append]; simp
    rw [lp_go (s' := ((d.take (j + 1)).any (fun x => decide (x = k)), j + 1)) (by
      unfold tollwaylaw24_DiscountLess_L21_step
      refine ite_t (by dsimp only; rw [up_len]; omega) ?_
      rw [e1]
      cases hb : (d.take j).any (fun x => decide (x = k)) with
      | true => exact ite_t rfl (guard_i (inR_i64.2 (by omega)) rfl)
      | false =>
        refine ite_f (by decide) (bind_i (v := (d[j] : Int)) (by unfold up; rw [List.getElem?_map, List.getElem?_eq_getElem hlt]; rfl) (guard_i (inR_i64.2 (by omega)) ?_))
        rw [hk, Bool.false_or]
        have : ((d[j] : Int) == (k : Int)) = decide (d[j] = k) := by
          by_cases h : d[j] = k
          · rw [decide_eq_true h, h]; exact beq_self_eq_true _
          · rw [decide_eq_false h, beq_eq_false_iff_ne]; omega
        rw [this])]
    exact less_loop l n d v e r19 k hk hlen m (j + 1) (by omega)
theorem tollwaylaw24_DiscountLess_true (l : List Tapi_Discount) (n : Int) (cents : Int) {p q : Prop} (hw : l.length ≤ maxLen ∧ p) (hn : InR .u8 n) (_ : q) : tollwaylaw24_DiscountLess l n cents = some true := by
  obtain ⟨b, hb, -⟩ := few_tot l hw.1
  have hn' : 0 ≤ n ∧ n ≤ 255 := by simpa [InR, IntKind.min, IntKind.max, IntKind.signed, IntKind.bits] using hn
  unfold tollwaylaw24_DiscountLess
  refine bind_i hb ?_
  cases b with
  | false => exact ite_f (by decide) (bind_i rfl rfl)
  | true =>
    refine ite_t rfl ?_
    by_cases h0 : (l.length : Int) = 0
    · exact ite_t h0 (bind_i rfl rfl)
    · refine ite_f h0 (guard_i (inR_i64.2 (by omega)) (guard_i h0 ?_))
      obtain ⟨k, hkl, hk⟩ := tmod_nat (n := n) (m := l.length) hn'.1 (by omega)
      rcases both_eq l cents with ⟨d, hck, hl, hc, hbest, h1, -⟩ | ⟨e, he, h1, -, -⟩
      · have hdl := asc_len hbest.1.asc hbest.1.lt
        -- the others
        have hsub : (l.take k ++ l.drop (k + 1)).Sublist l := by
          have := List.Sublist.append (List.Sublist.refl (l.take k)) (List.drop_sublist_drop_left l (show k ≤ k + 1 by omega))
          rwa [List.take_append_drop] at this
        have hck2 : discount_CheckAll (l.take k ++ l.drop (k + 1)) = some 0 := by
          rw [checkAll_iff] at hck ⊢
          exact ⟨Nat.le_trans hsub.length_le hck.1, fun x hx => hck.2.1 x (hsub.subset hx), hck.2.2.sublist hsub⟩
        obtain ⟨d2, hl2, hbest2, h2⟩ := best_ok hck2 hc
        have hrl : (l.take k ++ l.drop (k + 1)).length = l.length - 1 := by rw [List.length_append, List.length_take, List.length_drop]; omega
        have hget : ∀ i, (l.take k ++ l.drop (k + 1))[i]? = if i < k then l[i]? else l[i + 1]? := fun i => by
          by_cases h : i < k
          · rw [if_pos h, List.getElem?_append_left (by rw [List.length_take]; omega), List.getElem?_take_of_lt h]
          · rw [if_neg h, List.getElem?_append_right (by rw [List.length_take]; omega), List.getElem?_drop, List.length_take]
            congr 1; omega
        -- not more
        have le1 : gval (amtR (l.take k ++ l.drop (k + 1)) cents) cents d2 ≤ gval (amtR l cents) cents d := by
          have hφ : ∀ i ∈ d2, (if i < k then i else i + 1) < l.length ∧ l[if i < k then i else i + 1]? = (l.take k ++ l.drop (k + 1))[i]? := fun i hi => by
            have := hbest2.1.lt i hi
            rw [hrl] at this
            rw [hget]
            by_cases h : i < k
            · rw [if_pos h, if_pos h]; exact ⟨by omega, rfl⟩
            · rw [if_neg h, if_neg h]; exact ⟨by omega, rfl⟩
          have hg := transport (l' := l) (fun i => if i < k then i else i + 1) hbest2.1 hφ (fun i _ j _ h => by split <;> split <;> omega)
          have hs := gsum_map (cents := cents) (l' := l) (fun i => if i < k then i else i + 1) (fun i hi => (hφ i hi).2)
          rw [← gval_of hs]
          exact (nb_iff.1 (hbest.2 _ hg)).1
        -- as much, without one that is not chosen
        have le2 : (∀ x ∈ d, x ≠ k) → gval (amtR l cents) cents d ≤ gval (amtR (l.take k ++ l.drop (k + 1)) cents) cents d2 := by
          intro hno
          have hφ : ∀ i ∈ d, (if i < k then i else i - 1) < (l.take k ++ l.drop (k + 1)).length ∧ (l.take k ++ l.drop (k + 1))[if i < k then i else i - 1]? = l[i]? := fun i hi => by
            have h3 := hbest.1.lt i hi
            have h4 := hno i hi
            rw [hrl, hget]
            by_cases h : i < k
            · rw [if_pos h, if_pos h]; exact ⟨by omega, rfl⟩
            · rw [if_neg h, if_neg (by omega)]; exact ⟨by omega, by congr 1; omega⟩
          have hg := transport (l' := l.take k ++ l.drop (k + 1)) (fun i => if i < k then i else i - 1) hbest.1 hφ (fun i hi j hj h => by
            have := hno i hi; have := hno j hj
            split <;> split <;> omega)
          have hs := gsum_map (cents := cents) (l' := l.take k ++ l.drop (k + 1)) (fun i => if i < k then i else i - 1) (fun i hi => (hφ i hi).2)
          rw [← gval_of hs]
          exact (nb_iff.1 (hbest2.2 _ hg)).1
        rw [hk]
        have e1 : Int.toNat ((k : Int) + 1) = k + 1 := by omega
        rw [Int.toNat_natCast, e1]
        refine bind_i h1 (ite_t rfl (guard_i (Int.natCast_nonneg _) (guard_i (by omega) (guard_i (by rw [List.length_take]; omega) (guard_i (inR_i64.2 (by omega)) (guard_i (by omega) (guard_i (by omega) (guard_i (by rw [List.length_take, List.length_drop]; omega) (bind_i h2 ?_)))))))))
        have hloop := less_loop l n d (gval (amtR l cents) cents d) 0 (up d2, gval (amtR (l.take k ++ l.drop (k + 1)) cents) cents d2, 0) k hk (by omega) d.length 0 (by omega)
        refine bind_i hloop (ite_t rfl (ite_t le1 ?_))
        cases hany : (d.any fun x => decide (x = k)) with
        | true => exact ite_t rfl (bind_i rfl rfl)
        | false =>
          refine ite_f (by decide) (ite_t ?_ (bind_i rfl rfl))
          rw [List.any_eq_false] at hany
          have := le2 (fun x hx e => hany x hx (decide_eq_true e))
          dsimp only
          omega
      · exact bind_i h1 (ite_f he (bind_i rfl rfl))
end Go.Proofs.Ytabjlmlfmafllaa.Av
